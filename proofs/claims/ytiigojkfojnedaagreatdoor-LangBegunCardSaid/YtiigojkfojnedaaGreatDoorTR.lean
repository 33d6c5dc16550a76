import Derived.Test.YtiigojkfojnedaaGreatDoorTA
import Derived.RangeFuncLeaves
set_option linter.all false
set_option maxRecDepth 100000
set_option maxHeartbeats 8000000
open Nat renaming add_mul->kF,add_comm->Ae,lt_or_ge->cX,one_mul->alX,mul_le_mul_right->mq,le_refl->bA,mod_lt->lf,add_zero->qd,le_trans->uZ,lt_of_lt_of_le->kj,max->al3,max_eq_left->al4,add_assoc->qc,le_of_lt->Af,eq_or_lt_of_le->al5,strongRecOn->al6
open List renaming getElem?_append_left->eo,length_cons->cE,mem_cons_of_mem->x9,mem_of_mem_drop->tM,getElem_cons_succ->qY,getElem_drop->xZ,mem_of_mem_take->pn,getElem?_take->Aa,all_eq_true->dS,drop_take->z_,getElem?_eq_getElem->dN,mem_iff_getElem->pj,getElem_cons_zero->lE,drop_drop->ov,replicate->BZ,replicate_succ->al1,getElem_take->BX,drop_zero->BV,take_of_length_le->fw,getElem?_set->wx,mem_append->dE,mem_cons->cw,length_take->kE,mem_append_left->Ab,mem_append_right->BY,mem_filter->Ac,length_nil->eI,getElem?_eq_some_iff->fu,length_drop->kZ,map_cons->aA,map_congr_left->dD,getElem?_cons_zero->BW,getD_eq_getElem?_getD->nC,getElem?_cons_succ->JZ,range->qZ,mem_map->eT,mem_range->Ad,getElem?_eq_none->hU,getElem_map->iY,getElem_mem->df,nodup_cons->x_,map_nil->aP,length_map->cF
open Option.some renaming injEq->bc
open Prod.mk renaming injEq->az
open Go.World renaming cell?->sx
open Array renaming getElem_append_left->alY,getElem_mem->alZ,toArray_toList->uW,getElem_toList->ml,getElem?_toList->BQ,getElem?_eq_getElem->wq,getD_eq_getD_getElem?->ou,getElem?_setIfInBounds->al2,getElem?_eq_none->al7,getElem?_eq_some_iff->zX,replicate->al8,getElem?_setIfInBounds_ne->JP,toList_append->al9,size_eq_zero_iff->JQ
open Bool renaming and_eq_true->dW,not_true->al0,false_eq_true->jI,true_and->tG,or_eq_true->xU,not_eq_true'->zZ,or_eq_false_iff->EX
open Option renaming map_eq_some_iff->bE,map_some->qh,bind_eq_some_iff->B8,getD_some->E2
namespace Go.Δ
section
variable{P:Program}{base:Nat}{LC:eX}{g g':Gh}{lb lb':LB}{own aE:OW}{loc:Nat->Option (Nat×θ)}{mem:Mem}{w w':World}
variable{bf:Nat->Bool}{ax:cu}{ev:bw->AV}{a:Act}{o:Oper}{ao:AO}{v:AV}{u:kG}{m':Mem}
theorem Ji(n:Nat)(z:List AV):(rep n z).length=n*z.length:=by
 induction n with
 |zero=>simp[rep]
 |succ n ih=>simp[rep,ih,kF,Ae]
theorem Xt(z:List AV):∀(n k:Nat),k<n*z.length->(rep n z)[k]?=z[k % z.length]?:=by
 intro n;induction n with
 |zero=>intro k h;simp at h
 |succ n ih=>
  intro k h
  rw[rep];rcases cX k z.length with χ|du
  ·rw[eo χ,Nat.mod_eq_of_lt χ]
  ·rw[kF,alX]at h;rw[List.getElem?_append_right du,ih (k-z.length) (by omega),Nat.mod_eq_sub_mod du]
theorem FR.pw{sz:Nat}:∀{l:List AV} {vs:List Value},FR g lb sz l vs->PW (VR g lb) (l.flatMap AV.cells) vs:=by
 intro l;induction l with
 |nil=>
  intro vs h
  have:vs=[]:=List.eq_nil_of_length_eq_zero (by have:=h.1;simpa using this);subst this;exact PW.nil
 |cons e l ih=>
  intro vs h
  obtain⟨h1,h2,h3,h4⟩:=h;have MO:e.cells.length=sz:=h2 e (by simp);simp only[cE,kF,alX]at h1;have pS:FR g lb sz l (vs.drop sz):=by
   refine⟨by simp;omega,fun e he=>h2 e (x9 _ he),fun v hv=>h3 v (tM hv),fun i hi j hj dJ=>?_⟩;have:=h4 (i+1) (by simpa using hi) j (by simpa using hj) (by rw[kF];simp at dJ;omega);simp only[qY,xZ]at this⊢;have e1:(i+1)*sz+j=sz+(i*sz+j):=by rw[kF];omega
   simpa only[e1]using this
  have yR:PW (VR g lb) e.cells (vs.take sz):=by refine⟨by simp;omega,fun j hj dJ=>?_⟩;have:=h4 0 (by simp) j (by simpa using hj) (by simp at dJ;omega);simpa using this
  have:=yR.append (ih pS);rw[List.take_append_drop]at this;simpa[List.flatMap_cons]using this
theorem ajF(hm:a_ g own LC mem w){y:AV}{yv:Value}(hy:VR g lb y yv){sz k:Nat}{cs:List AV}(hc:cellsOf mem sz y=some (k,cs)):
  cs.length=k*sz/\(Builtin.lenOf yv).run P w= .ok k w/\∀j,j<=k->∃vs:List Value,(Builtin.firstCells sz j yv).run P w= .ok vs.toArray w/\PW (VR g lb) (cs.take (j*sz)) vs/\∀v∈vs,v.oneCell'=true:=by
 have key:∀(b o cap:Nat) (full:List Value),yv= .slice (some ⟨b,o,none⟩) k cap->cs.length=k*sz->PW (VR g lb) cs full->(∀v∈full,v.oneCell'=true)→
   (∀j v,full[j]?=some v->w.cell? ⟨b,o+j,none⟩=some v)->cs.length=k*sz/\(Builtin.lenOf yv).run P w= .ok k w∧
   ∀j,j<=k->∃vs:List Value,(Builtin.firstCells sz j yv).run P w= .ok vs.toArray w/\PW (VR g lb) (cs.take (j*sz)) vs/\∀v∈vs,v.oneCell'=true:=by
  rintro b o cap full rfl hlen cM h1 lZ
  refine⟨hlen,rfl,fun j hj=>⟨full.take (j*sz),?_,cM.take _,fun v hv=>h1 v (pn hv)⟩⟩;have qy:j*sz<=full.length:=by rw[<-cM.1,hlen];exact mq _ hj
  have A9:=run_loadCells_list (P:=P) w ⟨b,o,none⟩ (full.take (j*sz)) (fun q v hv=>by
   rw[Addr.add_mid]
   rw[Aa]at hv;split at hv
   ·exact lZ q v hv
   ·cases hv)
  have acd:(full.take (j*sz)).length=j*sz:=by simp;omega
  rw[acd]at A9;simp only[Builtin.firstCells,A9]
 cases y with
 |list c l=>
  simp only[cellsOf]at hc
  split at hc
  ·rename_i jv;simp only[bc,az]at hc;obtain⟨rfl,rfl⟩:=hc;simp only[dS,decide_eq_true_eq]at jv;by_cases hle:l=[]
   ·subst hle;have N7:(yv= .slice none 0 0)\/(∃ad cap,yv= .slice (some ad) 0 cap)\/∃b o cap,yv= .slice (some ⟨b,o,none⟩) 0 cap:=by
     cases hy with
     |iS=>exact .inl rfl
     |iw _ _ ad cap hc=>exact .inr (.inl ⟨_,_,rfl⟩)
     |list _ _ _ b o eQ n cap xs hn=>simp at hn;subst hn;exact .inr (.inr ⟨_,_,_,rfl⟩)
    rcases N7 with rfl|⟨ad,cap,rfl⟩|⟨b,o,cap,rfl⟩
    ·refine⟨by simp,rfl,fun j hj=>⟨[],rfl,by simp[PW],by simp⟩⟩
    ·refine⟨by simp,rfl,fun j hj=>⟨[],?_,by simp[PW],by simp⟩⟩;have:j=0:=by simp at hj;exact hj
     subst this;simp[Builtin.firstCells,loadCells,loadCellsFrom]
    ·exact key b o cap [] rfl (by simp) PW.nil (by simp) (by simp)
   ·obtain⟨b,o,cap,vs,rfl,-,-,dI,cC⟩:=hy.flat jv hle;have hp:=dI.pw;refine key b o cap vs rfl ?_ (hp.mono fun _ _ h=>h.mono g.eP fun _ _ _ h=>by cases h) dI.2.2.1 (fun j v hv=>hm.im _ _ _ (cC j v hv));rw[hp.1,dI.1]
  ·cases hc
 |sl kd id off n cap=>
  simp only[cellsOf]at hc
  split at hc
  ·rename_i l hb;split at hc
   ·rename_i hle;simp only[bc,az]at hc;obtain⟨rfl,rfl⟩:=hc;cases hy with
    |sl _ _ _ _ _ _ gq b mE eD aT=>
    obtain⟨b2,k1,k2⟩:=hm.blk id _ hb
    rw[aT]at k1;cases k1;obtain⟨aa,e,k3,k4,Il,k5⟩:=k2.pw;have ML:(aa.toList.drop off).take (n*sz)=((aa.toList.take l.length).drop off).take (n*sz):=by rw[z_,List.take_take,Nat.min_eq_left (by omega)]
    refine key b off gq ((aa.toList.drop off).take (n*sz)) rfl (by simp;omega) ((ML▸(k4.drop off).take (n*sz):PW (VR g bV) _ _).mono fun _ _ h=>h.mono g.eP fun _ _ _ h=>by cases h) (fun v hv=>k5 v (tM (pn hv))) (fun j v hv=>?_);rw[Aa]at hv;split at hv
    ·rw[List.getElem?_drop]at hv;simpa[sx,k3]using hv
    ·cases hv
   ·cases hc
  ·cases hc
 |_=>simp[cellsOf]at hc
theorem Ws(hm:a_ g own LC mem w)(hl:cx g lb own loc w)(ho:bT base own w){l:List AV}{vs:List Value}{rest:Array Value}{e:TypeId}{kd n cap:Nat}(cM:PW (VR g lb) l vs)(h1:∀v∈vs,v.oneCell'=true)(hr:∀v∈rest,v.oneCell'=true)(hn:n<=cap):
  h_ base LC g lb own loc w (.sl kd mem.ε.length 0 n n) none (mem.push (.cells (l.map mem.ν))) (.slice (some ⟨w.heap.size,0,none⟩) n cap) (w.drew.alloc (.cells (vs.toArray++rest) e)):=by
 refine h_.drew ?_;have nZ:=cM.1;have oU:=Wv (LC:=LC) (cs:=vs.toArray++rest) (l:=l) (e:=e) (oG:=true) (dst:=none) hm.drew hl.drew ho.drew (by simp;omega) (fun i hi ab=>by
   have jg:i<vs.length:=by omega
   have:=cM.2 i hi jg;rw[alY (by simpa using jg)];simpa using this) (fun i ab=>by
   rcases cX i vs.length with h|h
   ·rw[alY (by simpa using h)];exact h1 _ (by simp)
   ·rw[Array.getElem_append_right (by simpa using h)];exact hr _ (alZ _)) (rfl:newVar loc mem true none l=some (.μ mem.ε.length 0,none,_))
 obtain⟨g',lb',aE,p1,p2,p3,p4,p5,p6⟩:=oU;refine⟨g',lb',aE,p1,p2,?_,p4,p5,p6⟩;cases p3 with
 |μ _ _ _ b hb=>exact .sl _ _ _ _ _ _ _ _ (bA _) hn hb
theorem YV(hm:a_ g own LC mem w)(hl:cx g lb own loc w)(ho:bT base own w){x y:AV}{xv yv:Value}(hx:VR g lb x xv)(hy:VR g lb y yv)
  {t ty e:TypeId} {i:TypeInfo} {z:Value} (ht:P.underlying t=some (.slice e)) (hi:P.info? e=some i) (hz:i.zero=some z) (kQ:z.cells.size=i.size) (fT:∀v∈z.cells.toList,v.oneCell'=true)
  {ag:Bool} {v:AV} {m':Mem} (hr:wC mem ag i.size i.bytes x y=some (v,m')):
  ∃(xr:Value) (w':World),(Builtin.append_ #[t,t] ty #[xv,yv]).run P w= .ok xr w'/\h_ base LC g lb own loc w v none m' xr w':=by
 unfold wC at hr;split at hr
 ·rename_i c c' m;split at hr
  ·rename_i je;simp only[dW,dS,decide_eq_true_eq]at je;obtain⟨⟨⟨⟨mG,h0⟩,vn⟩,hlen⟩,eD⟩:=je;have Nv:∀e∈m,e.cells.length=i.size:=fun e he=>Jr (mG e he);split at hr
   ·cases hr;refine Qv (P:=P) (ag:=ag) hm hl ho hx hy ht hi hz kQ ?_;have:decide (0<i.size)=true:=decide_eq_true h0;unfold gA;rcases eD with rfl|rfl<;>simp[h0]
   ·rename_i rL;have rL:m≠[]:=fun h=>rL (by rw[h]);cases hr;have Ba:0<m.length:=List.length_pos_iff.2 rL;obtain⟨yb,yo,tE,us,rfl,-,-,lv,Na⟩:=hy.flat Nv rL;have sV:∀j u,us[j]?=some u->w.cell? ((⟨yb,yo,none⟩:Addr).add j)=some u:=fun j u hj=>by rw[Addr.add_mid];exact hm.im _ _ _ (Na j u hj)
    have cM:PW (VR g lb) (m.flatMap AV.cells) us:=lv.pw.mono fun _ _ h=>h.mono g.eP fun _ _ _ h=>by cases h
    have DT:∀n,∀v∈Builtin.zeroCells z.cells n,v.oneCell'=true:=fun n v hv=>by
     simp only[Builtin.zeroCells,Array.mem_map,Array.mem_range]at hv;obtain⟨k,hk,rfl⟩:=hv;have dh:k % z.cells.size<z.cells.size:=lf _ (by
      rcases Nat.eq_zero_or_pos z.cells.size with h|h
      ·rw[h]at hk;omega
      ·exact h)
     rw[getElem!_pos z.cells _ dh];exact fT _ (by simp)
    have DR:xv= .slice none 0 0\/∃ad,xv= .slice (some ad) 0 0:=by
     cases hx with
     |iS=>exact .inl rfl
     |iw _ _ ad cap hc=>
      rcases hc with hc|⟨_,hc⟩
      ·subst hc;rcases eD with h|h<;>cases h
      ·exact .inr ⟨ad,by rw[hc]⟩
     |list _ _ _ b o sz n cap xs hn dP hc=>
      simp at hn;subst hn
      rcases eD with rfl|rfl
      ·exact .inr ⟨⟨b,o,none⟩,by simp only[mV]at hc;subst hc;rfl⟩
      ·exact hc.elim
    have vB:(m.length:Int)<=9223372036854775807:=by omega
    rcases DR with rfl|⟨ad,rfl⟩
    ·exact⟨_,_,run_append_nil (P:=P) w t ty e i z ht hi hz ⟨yb,yo,none⟩ m.length tE us lv.1 sV Ba vB (by omega),Ws hm hl ho cM lv.2.2.1 (DT _) (grownCap_ge w m.length 0 e)⟩
    ·have hg:=run_append_grow (P:=P) w t ty e i z ht hi hz ad 0 0 [] (by simp) (by simp) ⟨yb,yo,none⟩ m.length tE us lv.1 sV (by omega) (by omega) (growslice_fits (by omega) (by simpa using vn));refine⟨_,_,hg,?_⟩;have:=Ws (LC:=LC) (kd:=if ag then i.size else 0) (e:=e) hm hl ho cM lv.2.2.1 (DT (grownCap w m.length 0 e-m.length)) (grownCap_ge w m.length 0 e);simpa using this
  ·cases hr
 ·cases hr
theorem agr(ak:eS g lb ev a)(hm:a_ g own LC mem w)(hl:cx g lb own loc w)(ho:bT base own w){c:Call}(Ξ:o.op= .call c)(hb:c.callee= .builtin .append){ag:Bool}{sz bytes:Nat}{e:TypeId}{x' y':bw}
  (hc:cQ P bf o=some (.appm ag sz bytes e x' y')) (hr:aH ev loc mem ax o.dst (.appm ag sz bytes e x' y')=some (v,u,m')):ra P base LC g lb own loc w a o v u m':=by
 simp only[cQ,Ξ,hb]at hc;split at hc
 ·rename_i x y t t' iG s8;split at hc
  ·rename_i e2 x2 y2 hu hx hy;split at hc
   ·rename_i i ag2 z hi lJ hz;split at hc
    ·rename_i mH;subst mH;by_cases mF:AB bf o.dst=true
     ·rw[if_pos mF]at hc;cases hc;have nS:(c.args.map a.eval)= #[a.eval x,a.eval y]:=by
       have:(c.args.map a.eval).toList=[a.eval x,a.eval y]:=by simp[iG]
       rw[<-uW (xs:=c.args.map a.eval),this]
      have pV:c.argTypes= #[t,t]:=by rw[<-uW (xs:=c.argTypes),s8]
      simp only[aH,bE,az,Prod.exists]at hr;obtain⟨r,m1,hr,rfl,rfl,rfl⟩:=hr;obtain⟨zv,i',ab,fT,gh,kQ,-,-,-,hzo⟩:=zT (P:=P) (g:=g) (lb:=lb) (w:=w) hz;rw[hi]at ab;cases ab;obtain⟨xr,w',h1,h2⟩:=YV (P:=P) (ty:=o.type) hm hl ho (ak _ _ hx) (ak _ _ hy) hu hi fT kQ hzo hr;refine⟨xr,w',.inl ?_,h2⟩;simp only[execOp,Ξ,resolve,hb,nS,pV,Sem.run_bind,Sem.run_pure,Result.andThen_ok,invoke,builtin,h1]
     ·rw[if_neg mF]at hc;cases hc
    ·cases hc
   ·cases hc
  ·cases hc
 ·cases hc
theorem agq(ak:eS g lb ev a)(hm:a_ g own LC mem w)(hl:cx g lb own loc w)(ho:bT base own w){c:Call}(Ξ:o.op= .call c)(hb:c.callee= .builtin .append)
  :gI P bf base LC g lb own loc mem w ax ev a o ao v u m':=fun hc hr=>by
 by_cases TY:∃ag sz bytes e x y,ao= .appm ag sz bytes e x y
 ·obtain⟨ag,sz,bytes,e,x,y,rfl⟩:=TY;exact agr ak hm hl ho Ξ hb hc hr
 ·exact agp ak hm hl ho Ξ hb hc (fun ag sz bytes e x y h=>TY ⟨ag,sz,bytes,e,x,y,h⟩) hr
theorem agM(ak:eS g lb ev a)(hm:a_ g own LC mem w)(hl:cx g lb own loc w)(ho:bT base own w){t:TypeId}{x y:Operand}(Ξ:o.op= .makeSlice t x y)
  :gI P bf base LC g lb own loc mem w ax ev a o ao v u m':=fun hc hr=>by
 simp only[cQ,Ξ]at hc;split at hc
 ·rename_i e x' y' hu hx hy;split at hc
  ·rename_i z i hz hi;cases hc;simp only[aH]at hr;split at hr
   ·rename_i kn n kc c e1 e2;split at hr
    ·rename_i hb;simp only[bc,az]at hr;obtain⟨rfl,rfl,rfl⟩:=hr;have k1:=ak _ _ hx;have k2:=ak _ _ hy;rw[e1]at k1;rw[e2]at k2;obtain⟨zv,i',ab,fT,gh,kQ,ux,jN,Oc,N9⟩:=zT (P:=P) (g:=g) (lb:=lb) (w:=w) hz;rw[hi]at ab;cases ab;obtain⟨b0,b1,b2,b3⟩:=hb;have dY:=run_make (P:=P) w t e i zv hu hi fT kn kc n c b0 b1 b2 b3;have aJ:(madeCells zv.cells (c.toNat*i.size)).size=(rep c.toNat z).length:=by rw[size_madeCells,Ji,ux]
     have Dt:∀k (h:k<(rep c.toNat z).length) (h':k<(madeCells zv.cells (c.toNat*i.size)).size),
       (rep c.toNat z)[k]=z[k % z.length]'(lf _ (by omega))/\(madeCells zv.cells (c.toNat*i.size))[k]=zv.cells[k % zv.cells.size]'(lf _ (by omega)):=by
      intro k h h';have hk:k<c.toNat*z.length:=by rw[Ji]at h;exact h
      refine⟨?_,?_⟩
      ·have:=Xt z c.toNat k hk;rw[dN h,dN (lf _ (by omega))]at this;exact Option.some.inj this
      ·have hm:k % zv.cells.size<zv.cells.size:=lf _ (by omega);simp[madeCells,hm]
     have oU:=O4 (LC:=LC) (e:=e) (oG:=true) (dst:=none) hm hl ho aJ (fun k h h'=>by
       obtain⟨q1,q2⟩:=Dt k h h'
       rw[q1,q2];have:=Oc.2 (k % z.length) (lf _ (by omega)) (by simp;rw[kQ,<-ux];exact lf _ (by omega));have he:k % zv.cells.size=k % z.length:=by rw[kQ,ux]
       simpa only[he,ml]using this) (fun k h'=>by
       obtain⟨-,q2⟩:=Dt k (by omega) h';rw[q2];exact N9 _ (by simp)) (rfl:newVar loc mem true none (rep c.toNat z)=some (.μ mem.ε.length 0,none,_))
     refine⟨.slice (some ⟨w.heap.size,0,none⟩) n.toNat c.toNat,w.alloc (.cells (madeCells zv.cells (c.toNat*i.size)) e),.inl ?_,?_⟩
     ·exact(by simp only[execOp,Ξ,uR k1,uR k2,Sem.run_bind,dY,Result.andThen_ok];rfl)
     ·obtain⟨g',lb',aE,p1,p2,p3,p4,p5,p6⟩:=oU;refine⟨g',lb',aE,p1,p2,?_,p4,p5,p6⟩;cases p3 with
      |μ _ _ _ b hb=>exact .sl _ _ _ _ _ _ _ _ (by omega) (bA _) hb
    ·cases hr
   ·cases hr
  ·cases hc
 ·cases hc
theorem agx(ak:eS g lb ev a)(hm:a_ g own LC mem w)(hl:cx g lb own loc w)(ho:bT base own w){c:Call}(Ξ:o.op= .call c)(hb:c.callee= .builtin .copy)
  :gI P bf base LC g lb own loc mem w ax ev a o ao v u m':=fun hc hr=>by
 simp only[cQ,Ξ,hb]at hc;split at hc
 ·rename_i x y t ts iG s8;split at hc
  ·rename_i e x' y' hu hx hy;simp only[bE]at hc;obtain⟨sz,aJ,rfl⟩:=hc;have nS:(c.args.map a.eval)= #[a.eval x,a.eval y]:=by
    have:(c.args.map a.eval).toList=[a.eval x,a.eval y]:=by simp[iG]
    rw[<-uW (xs:=c.args.map a.eval),this]
   have pV:c.argTypes[0]?=some t:=by rw[<-BQ,s8];rfl
   simp only[aH]at hr;split at hr
   ·rename_i id off n cp e1;split at hr
    ·rename_i k cs jf;simp only[bE,az,Prod.exists]at hr;obtain⟨u1,m1,hw,rfl,rfl,rfl⟩:=hr;have k1:=ak _ _ hx;rw[e1]at k1;obtain⟨b,cq,bJ,hid,dP,yN⟩:∃b cq,a.eval x= .slice (some ⟨b,off,none⟩) n cq/\g.mb id=some b/\n<=cp/\cp<=cq:=by
      generalize a.eval x=xv at k1;cases k1 with
      |sl _ _ _ _ _ _ cq b mE yN aT=>exact⟨b,cq,rfl,aT,mE,yN⟩
     obtain⟨s1,s2,-⟩:=pa (P:=P) (w:=w) aJ;obtain⟨q1,q2,q3⟩:=ajF (P:=P) hm (ak _ _ hy) jf;obtain⟨vs,q4,q5,q6⟩:=q3 (Nat.min k n) (Nat.min_le_left _ _);have NT:u1=none:=by
      simp only[wr]at hw;split at hw
      ·split at hw
       ·cases hw;rfl
       ·cases hw
      ·cases hw
     subst NT;have rR:wr loc mem (.μ id off) (cs.take (Nat.min k n*sz))=some (none,m1):=hw;obtain⟨b2,agb,aa,ee,w1,w2,w3,w4⟩:=P5 hm hl ho (.μ lb id off b hid) q5 q6 rR;cases w1;have Ω:=run_storeCells_at P b off ee vs 0 aa w w2 (by simpa using w3) q6;simp only[qd]at Ω;refine⟨.int .i64 (Nat.min k n:Nat),w.setRow b (arr aa off vs),.inl ?_,?_⟩
     ·simp only[execOp,Ξ,resolve,hb,nS,Sem.run_bind,Sem.run_pure,Result.andThen_ok,invoke,builtin,Builtin.copy_,pV,bJ];have NR:(storeCells ⟨b,off,none⟩ vs).run P w= .ok () (w.setRow b (arr aa off vs)):=Ω;have xk:(Builtin.lenOf (.slice (some ⟨b,off,none⟩) n cp)).run P w= .ok n w:=rfl;simp[run_underlying hu,q2,s1,q4,NR,goInt]
     ·obtain⟨g',lb',aE,p1,p2,p3,p4,p5,p6⟩:=w4;exact⟨g',lb',aE,p1,p2,.int _ _ _,p4,p5,p6⟩
    ·cases hr
   ·cases hr
  ·cases hc
 ·cases hc
theorem agv(ak:eS g lb ev a)(hm:a_ g own LC mem w)(hl:cx g lb own loc w)(ho:bT base own w){c:Call}(Ξ:o.op= .call c)(hb:c.callee= .builtin .clear)
  :gI P bf base LC g lb own loc mem w ax ev a o ao v u m':=fun hc hr=>by
 simp only[cQ,Ξ,hb]at hc;split at hc
 ·rename_i x t iG s8;split at hc
  ·rename_i e x' hu hx;simp only[bE]at hc;obtain⟨z,hz,rfl⟩:=hc;have nS:(c.args.map a.eval)= #[a.eval x]:=by
    have:(c.args.map a.eval).toList=[a.eval x]:=by simp[iG]
    rw[<-uW (xs:=c.args.map a.eval),this]
   have pV:c.argTypes[0]?=some t:=by rw[<-BQ,s8];rfl
   have k1:=ak _ _ hx;simp only[aH]at hr;split at hr
   ·rename_i cc e1;simp only[bc,az]at hr;obtain⟨rfl,rfl,rfl⟩:=hr;rw[e1]at k1;have bJ:∃A cap,a.eval x= .slice A 0 cap:=by
     generalize a.eval x=xv at k1;cases k1 with
     |iS=>exact⟨_,_,rfl⟩
     |iw=>exact⟨_,_,rfl⟩
     |list _ _ _ b o sz n cap xs hn=>simp at hn;subst hn;exact⟨_,_,rfl⟩
    obtain⟨A,cap,bJ⟩:=bJ;refine .pure hm hl ho (x:= .tuple #[]) ?_ (.undef _);simp only[execOp,Ξ,resolve,hb,nS,Sem.run_bind,Sem.run_pure,Result.andThen_ok,invoke,builtin,Builtin.clear_,pV,bJ];cases A<;>simp[run_underlying hu]
   ·rename_i id off n cp e1;rw[e1]at k1;obtain⟨b,cq,bJ,hid,dP,yN⟩:∃b cq,a.eval x= .slice (some ⟨b,off,none⟩) n cq/\g.mb id=some b/\n<=cp/\cp<=cq:=by
     generalize a.eval x=xv at k1;cases k1 with
     |sl _ _ _ _ _ _ cq b mE yN aT=>exact⟨b,cq,rfl,aT,mE,yN⟩
    split at hr
    ·rename_i hn;simp only[bc,az]at hr;obtain⟨rfl,rfl,rfl⟩:=hr;subst hn;refine .pure hm hl ho (x:= .tuple #[]) ?_ (.undef _);simp only[execOp,Ξ,resolve,hb,nS,Sem.run_bind,Sem.run_pure,Result.andThen_ok,invoke,builtin,Builtin.clear_,pV,bJ];simp[run_underlying hu]
    rename_i hn;simp only[bE,az,Prod.exists]at hr;obtain⟨u1,m1,hw,rfl,rfl,rfl⟩:=hr;have NT:u1=none:=by
     simp only[wr]at hw;split at hw
     ·split at hw
      ·cases hw;rfl
      ·cases hw
     ·cases hw
    subst NT;have rR:wr loc mem (.μ id off) (rep n z)=some (none,m1):=hw;obtain⟨zv,i,hi,fT,gh,kQ,ux,jN,Oc,N9⟩:=zT (P:=P) (g:=g) (lb:=lb) (w:=w) hz;have aJ:(Builtin.zeroCells zv.cells n).size=(rep n z).length:=by rw[size_zeroCells,Ji,ux,kQ]
    have Dt:∀k (h:k<(rep n z).length) (h':k<(Builtin.zeroCells zv.cells n).size),
      (rep n z)[k]=z[k % z.length]'(lf _ (by omega))/\(Builtin.zeroCells zv.cells n)[k]=zv.cells[k % zv.cells.size]'(lf _ (by omega)):=by
     intro k h h';have hk:k<n*z.length:=by rw[Ji]at h;exact h
     refine⟨?_,?_⟩
     ·have:=Xt z n k hk;rw[dN h,dN (lf _ (by omega))]at this;exact Option.some.inj this
     ·have hm:k % zv.cells.size<zv.cells.size:=lf _ (by omega);simp[Builtin.zeroCells,hm]
    have cM:PW (VR g lb) (rep n z) (Builtin.zeroCells zv.cells n).toList:=by
     refine⟨by simp[aJ],fun k h h'=>?_⟩;obtain⟨q1,q2⟩:=Dt k h (by simpa using h');have e3:(Builtin.zeroCells zv.cells n).toList[k]=(Builtin.zeroCells zv.cells n)[k]'(by simpa using h'):=ml _;rw[q1,e3,q2];have:=Oc.2 (k % z.length) (lf _ (by omega)) (by simp;rw[kQ,<-ux];exact lf _ (by omega));have he:k % zv.cells.size=k % z.length:=by rw[kQ,ux]
     simpa only[he,ml]using this
    have h1:∀v∈(Builtin.zeroCells zv.cells n).toList,v.oneCell'=true:=by intro v hv;obtain⟨k,hk,rfl⟩:=pj.1 hv;obtain⟨-,q2⟩:=Dt k (by simpa[aJ]using hk) (by simpa using hk);have e3:(Builtin.zeroCells zv.cells n).toList[k]=(Builtin.zeroCells zv.cells n)[k]'(by simpa using hk):=ml _;rw[e3,q2];exact N9 _ (by simp)
    obtain⟨b2,agb,aa,ee,w1,w2,w3,w4⟩:=P5 hm hl ho (.μ lb id off b hid) cM h1 rR;cases w1;have Ω:=run_storeCells_at P b off ee _ 0 aa w w2 (by simpa using w3) h1;simp only[qd]at Ω;refine⟨.tuple #[],w.setRow b (arr aa off (Builtin.zeroCells zv.cells n).toList),.inl ?_,?_⟩
    ·simp only[execOp,Ξ,resolve,hb,nS,Sem.run_bind,Sem.run_pure,Result.andThen_ok,invoke,builtin,Builtin.clear_,pV,bJ];obtain⟨n',rfl⟩:∃n',n=n'+1:=⟨n-1,by omega⟩;simp[run_underlying hu,gh,Ω,arr]
    ·obtain⟨g',lb',aE,p1,p2,p3,p4,p5,p6⟩:=w4;exact⟨g',lb',aE,p1,p2,.undef _,p4,p5,p6⟩
   ·cases hr
  ·cases hc
 ·cases hc
end
section
variable{P:Program}{base:Nat}{LC:eX}{g:Gh}{lb:LB}{own:OW}{loc:Nat->Option (Nat×θ)}{mem:Mem}{w:World}{bf:Nat->Bool}{ax:cu}
variable{ev:bw->AV}{a:Act}{o:Oper}{ao:AO}{v:AV}{u:kG}{m':Mem}
def At:KK->AV->AV->Option Bool
 | .int,.int k a,.int k' b=>if k=k' then some (decide (a=b))else none
 | .str,.str a,.str b=>some (decide (a=b))
 | .bool,.bool a,.bool b=>some (a==b)
 |_,_,_=>none
theorem LF{k:KK}{ks:List KK}{l m:List AV}{r:Bool}(h:kL (k::ks) l m=some r):
  ∃x y l' m' r1 r2,l=x::l'/\m=y::m'/\At k x y=some r1/\kL ks l' m'=some r2/\r=(r1&&r2):=by
 cases k<;>cases l with
 |nil=>simp[kL]at h
 |cons x l=>
  cases m with
  |nil=>cases x<;>simp[kL]at h
  |cons y m=>
   cases x<;>cases y<;>simp only[kL]at h<;>first|(cases h;done)|skip
   all_goals first
    |(
      split at h
      ·rename_i hk;simp only[bE]at h;obtain⟨r2,h2,rfl⟩:=h;exact⟨_,_,_,_,_,r2,rfl,rfl,by simp only[At,hk,if_true],h2,rfl⟩
      ·cases h)
    |(
      simp only[bE]at h
      obtain⟨r2,h2,rfl⟩:=h;exact⟨_,_,_,_,_,r2,rfl,rfl,rfl,h2,rfl⟩)
theorem Xy{k:KK}{t:TypeId}(hk:pW P t=some k){x y:AV}{xv yv:Value}(hx:VR g lb x xv)(hy:VR g lb y yv){r:Bool}(h:At k x y=some r)(d:Nat):
  (Op.equalIn (d+1) t xv yv).run P w= .ok r w:=by
 unfold pW at hk;split at hk
 ·rename_i q hu;cases hk;cases x<;>cases y<;>simp only[At]at h<;>first|(cases h;done)|skip
  split at h
  ·rename_i fb;subst fb;cases h;cases hx;cases hy;rw[run_equalIn_int w d t _ _ _ _ hu];rfl
  ·cases h
 ·rename_i hu;cases hk;cases x<;>cases y<;>simp only[At]at h<;>first|(cases h;done)|skip
  cases h;cases hx;cases hy;rename_i b1 h1 b2 h2;rw[run_equalIn_string w d t _ _ hu,PU h1 h2]
 ·rename_i hu;cases hk;cases x<;>cases y<;>simp only[At]at h<;>first|(cases h;done)|skip
  cases h;cases hx;cases hy;exact run_equalIn_bool d hu _ _
 ·cases hk
theorem ae5{t:TypeId}{k:KK}(h:pW P t=some k):(isAgg t).run P w= .ok false w:=by
 unfold pW at h;split at h
 ·rename_i hu;simp[isAgg,run_underlying hu]
 ·rename_i hu;simp[isAgg,run_underlying hu]
 ·rename_i hu;simp[isAgg,run_underlying hu]
 ·cases h
theorem Jk{t:TypeId}{k:KK}(h:pW P t=some k){cs:Array Value}{off:Nat}(ho:off<cs.size):(part t cs off).run P w= .ok cs[off] w:=by simp[part,ae5 h,wq ho]
theorem SK(d:Nat){xs ys:Array Value}:∀(fs:List Field) (k:Nat) (ks:List KK) (l m:List AV) (r:Bool),F1 P k fs=some ks->kL ks l m=some r→
  PW (VR g lb) l (xs.toList.drop k)->PW (VR g lb) m (ys.toList.drop k)->(Op.eqFields (d+1) xs ys fs).run P w= .ok r w
 |[],k,ks,l,m,r,hf,he,_,_=>by cases hf;cases l<;>cases m<;>simp[kL]at he;subst he;rfl
 |f::fs,k,ks,l,m,r,hf,he,hx,hy=>by
  simp only[F1]at hf;split at hf
  ·rename_i kk ks' h1 h2 h3;split at hf
   ·rename_i hc;obtain⟨acx,rfl⟩:=hc;cases hf;obtain⟨x,y,l',m',r1,r2,rfl,rfl,e1,e2,rfl⟩:=LF he;have Nj:f.offset<xs.size:=by have:=hx.1;simp at this;omega
    have Nk:f.offset<ys.size:=by have:=hy.1;simp at this;omega
    have vx:=hx.2 0 (by simp) (by simp;omega);have vy:=hy.2 0 (by simp) (by simp;omega);simp only[lE,xZ,qd,ml]at vx vy;have gr:PW (VR g lb) l' (xs.toList.drop (f.offset+1)):=by have:=hx.drop 1;simpa[ov]using this
    have l8:PW (VR g lb) m' (ys.toList.drop (f.offset+1)):=by have:=hy.drop 1;simpa[ov]using this
    have ih:=SK d fs (f.offset+1) ks' l' m' r2 h3 e2 gr l8;have vp:=Xy (P:=P) (w:=w) h1 vx vy e1 d;simp only[Op.eqFields];rw[if_pos acx];simp only[Sem.run_bind,Jk h1 Nj,Jk h1 Nk,Result.andThen_ok,vp];cases r1
    ·rfl
    ·simp only[al0,jI,if_false,tG];exact ih
   ·cases hf
  ·cases hf
theorem Qx(d:Nat){e:TypeId}{k:KK}(hk:pW P e=some k){xs ys:Array Value}:∀(n i:Nat) (l m:List AV) (r:Bool),kL (BZ n k) l m=some r→
  PW (VR g lb) l ((xs.toList.drop i).take n)->PW (VR g lb) m ((ys.toList.drop i).take n)→
  (forIn (m:=Sem) (List.range' i n) ((none,()):Option Bool×Unit) fun j _=>do
    if !(<-Op.equalIn (d+1) e (<-part e xs (j*1)) (<-part e ys (j*1)))then pure (ForInStep.done (some false,()))else pure (ForInStep.yield (none,()))).run P w=
   .ok (if r then(none,())else(some false,())) w
 |0,i,l,m,r,he,_,_=>by cases l<;>cases m<;>simp[kL]at he;subst he;rfl
 |n+1,i,l,m,r,he,hx,hy=>by
  rw[al1]at he;obtain⟨x,y,l',m',r1,r2,rfl,rfl,e1,e2,rfl⟩:=LF he;have Nj:i<xs.size:=by have:=hx.1;simp at this;omega
  have Nk:i<ys.size:=by have:=hy.1;simp at this;omega
  have vx:=hx.2 0 (by simp) (by simp;omega);have vy:=hy.2 0 (by simp) (by simp;omega);simp only[lE,BX,xZ,qd,ml]at vx vy;have gr:PW (VR g lb) l' ((xs.toList.drop (i+1)).take n):=by have:=hx.drop 1;simpa[z_,ov]using this
  have l8:PW (VR g lb) m' ((ys.toList.drop (i+1)).take n):=by have:=hy.drop 1;simpa[z_,ov]using this
  have ih:=Qx d hk n (i+1) l' m' r2 e2 gr l8;have vp:=Xy (P:=P) (w:=w) hk vx vy e1 d;rw[List.range'_succ];simp only[List.forIn_cons,Sem.run_bind,Nat.mul_one,Jk hk Nj,Jk hk Nk,Result.andThen_ok,vp];cases r1
  ·rfl
  ·simp only[al0,jI,if_false,tG,Sem.run_pure,Result.andThen_ok];simp only[Nat.mul_one]at ih;exact ih
theorem aa8{t:TypeId}{ks:List KK}(hf:CL P t=some ks){l m:List AV}{xs ys:Array Value}{r:Bool}(hx:VR g lb (.agg l) (.agg xs))(hy:VR g lb (.agg m) (.agg ys))(he:kL ks l m=some r):
  P.eqGuardType P.depth t=false/\(Op.equalIn 10000 t (.agg xs) (.agg ys)).run P w= .ok r w:=by
 unfold CL at hf;split at hf
 ·cases hf
 ·rename_i oM;refine⟨by simpa using oM,?_⟩;have px:=(Xc hx).1;have py:=(Xc hy).1;split at hf
  ·rename_i fields hu;split at hf
   ·cases hf
   ·rename_i Ω;have Uq:P.fieldsOf t=fields:=by simp[Program.fieldsOf,hu]
    rw[show(10000:Nat)=9998+1+1 from rfl,run_equalIn_struct w (9998+1) t xs ys (by rw[Uq];exact hu) (by simpa using Ω),Uq];exact SK 9998 fields.toList 0 ks l m r hf he (by simpa using px) (by simpa using py)
  ·rename_i n e hu;split at hf
   ·rename_i kk hk hs;cases hf;obtain⟨s1,-,-⟩:=pa (P:=P) (w:=w) hs;have hlx:l.length=n/\m.length=n:=by
     have:∀(n:Nat) (l m:List AV) (r:Bool),kL (BZ n kk) l m=some r->l.length=n/\m.length=n:=by
      intro n;induction n with
      |zero=>intro l m r h;cases l<;>cases m<;>simp[kL]at h;exact⟨rfl,rfl⟩
      |succ n ih=>
       intro l m r h
       rw[al1]at h;obtain⟨_,_,l',m',_,_,rfl,rfl,_,h2,_⟩:=LF h;have:=ih _ _ _ h2;exact⟨by simp[this.1],by simp[this.2]⟩
     exact this n l m r he
    have ha:=Qx (P:=P) (w:=w) (xs:=xs) (ys:=ys) 9998 hk n 0 l m r he (by
     have:=px.1
     rw[BV,fw (by omega)];exact px) (by
     have:=py.1;rw[BV,fw (by omega)];exact py)
    rw[show(10000:Nat)=9998+1+1 from rfl,Op.equalIn];simp only[Sem.run_bind,run_underlying hu,Result.andThen_ok,s1];rw[Std.Legacy.Range.forIn_eq_forIn_range'];simp only[Std.Legacy.Range.size,Nat.sub_zero,Nat.add_sub_cancel,Nat.div_one];rw[ha];cases r<;>rfl
   ·cases hf
  ·cases hf
theorem I1(ak:eS g lb ev a)(hm:a_ g own LC mem w)(hl:cx g lb own loc w)(ho:bT base own w){op:BinOp}{t ty:TypeId}{x y:Operand}(Ξ:o.op= .binOp op t x y ty)
  {x' y':bw} (hx:cB x=some x') (hy:cB y=some y') {ks:List KK} (hf:CL P t=some ks) {neg:Bool} (hn:op=if neg then .neq else .eql)
  (hr:aH ev loc mem ax o.dst (.eqs neg ks x' y')=some (v,u,m')):ra P base LC g lb own loc w a o v u m':=by
 simp only[aH]at hr;split at hr
 ·rename_i l m e1 e2;simp only[bE,az]at hr;obtain⟨r,hr,rfl,rfl,rfl⟩:=hr;have k1:=ak _ _ hx;have k2:=ak _ _ hy;rw[e1]at k1;rw[e2]at k2;cases bJ:a.eval x<;>rw[bJ]at k1<;>(try(cases k1;done));cases vQ:a.eval y<;>rw[vQ]at k2<;>(try(cases k2;done));obtain⟨h1,h2⟩:=aa8 (P:=P) (w:=w) hf k1 k2 hr;refine .pure (x:= .bool (if neg then !r else r)) hm hl ho ?_ (.bool _ _);cases neg<;>simp only[jI,if_false,if_true]at hn<;>subst hn
  ·simp only[execOp,Ξ,bJ,vQ,Sem.run_bind,run_eqGuard_agg w .eql t x y _ _ h1,Result.andThen_ok,run_eql_struct,h2];rfl
  ·simp only[execOp,Ξ,bJ,vQ,Sem.run_bind,run_eqGuard_agg w .neq t x y _ _ h1,Result.andThen_ok,run_neq_struct,h2];rfl
 ·cases hr
theorem agD(ak:eS g lb ev a)(hm:a_ g own LC mem w)(hl:cx g lb own loc w)(ho:bT base own w){t:TypeId}{x y z:Operand}(Ξ:o.op= .insert t x y z)
  :gI P bf base LC g lb own loc mem w ax ev a o ao v u m':=fun hc hr=>by
 have e1:cQ P bf {o with op:= .mapUpdate t x y z}=some ao:=by rw[<-hc];simp only[cQ,Ξ]
 have e2:execOp a.eval o=execOp a.eval {o with op:= .mapUpdate t x y z}:=by simp only[execOp,Ξ]
 have:=WE (o:= {o with op:= .mapUpdate t x y z}) ak hm hl ho rfl e1 hr;unfold ra at this⊢;rw[e2];exact this
theorem agL(hm:a_ g own LC mem w)(hl:cx g lb own loc w)(ho:bT base own w){t:TypeId}{r:Operand}(Ξ:o.op= .makeMap t (some r))
  :gI P bf base LC g lb own loc mem w ax ev a o ao v u m':=fun hc hr=>by
 cases r with
 |const c=>
  cases c with
  |int k n=>
   simp only[cQ,Ξ]at hc
   split at hc
   ·rename_i kt et hu;cases hc;have e1:cQ P bf {o with op:= .makeMap t none}=some .mkmap:=by simp only[cQ]
    have e2:(execOp a.eval o).run P w=(execOp a.eval {o with op:= .makeMap t none}).run P w:=by simp only[execOp,Ξ,qh,Option.map_none,Instr.makeMap,Act.eval,Sem.run_bind,run_underlying hu,Result.andThen_ok,asInt,asIntOf,Sem.run_pure]
    have:=WH (a:=a) (o:= {o with op:= .makeMap t none}) hm hl ho rfl e1 hr;unfold ra at this⊢;rw[e2];exact this
   ·cases hc
  |_=>simp only[cQ,Ξ]at hc;cases hc
 |_=>simp only[cQ,Ξ]at hc;cases hc
theorem agS(ak:eS g lb ev a)(hm:a_ g own LC mem w)(hl:cx g lb own loc w)(ho:bT base own w)(hc:cQ P bf o=some ao)(yZ:∀f args,ao≠ .call f args/\ao≠ .callz f args)
  (hr:aH ev loc mem ax o.dst ao=some (v,u,m')):ra P base LC g lb own loc w a o v u m':=by
 cases Ξ:o.op with
 |move x=>exact WI ak hm hl ho (.inl Ξ) hc hr
 |assign x=>exact WI ak hm hl ho (.inr Ξ) hc hr
 |pick c x y=>exact agP ak hm hl ho Ξ hc hr
 |alloc e=>exact ago hm hl ho Ξ hc hr
 |box e x=>exact ags ak hm hl ho Ξ hc hr
 |build t ps=>exact agu ak hm hl ho Ξ hc hr
 |buildSlice t n ps=>exact agt ak hm hl ho Ξ hc hr
 |load t x=>exact agF ak hm hl ho Ξ hc hr
 |store t x y=>exact agT ak hm hl ho Ξ hc hr
 |nilCheck x=>exact agN ak hm hl ho Ξ hc hr
 |unOp op t x=>exact agU ak hm hl ho Ξ hc hr
 |convert s d x=>exact agw ak hm hl ho Ξ hc hr
 |makeInterface t x=>exact agK ak hm hl ho Ξ hc hr
 |makeFunc f x y=>exact agJ ak hm hl ho Ξ hc hr
 |fieldAddr s x f=>exact agA ak hm hl ho Ξ hc hr
 |field s x f=>exact agB ak hm hl ho Ξ hc hr
 |indexAddr t x i=>exact agC ak hm hl ho Ξ hc hr
 |index t x i=>exact agE ak hm hl ho Ξ hc hr
 |lookup t x i ok=>exact agH ak hm hl ho Ξ hc hr
 |mapUpdate t x y z=>exact WE ak hm hl ho Ξ hc hr
 |slice t x lo hi mx=>exact agR ak hm hl ho Ξ hc hr
 |extract x k=>exact agz ak hm hl ho Ξ hc hr
 |range t x=>exact agQ ak hm hl ho Ξ hc hr
 |makeMap t r=>
  cases r with
  |none=>exact WH hm hl ho Ξ hc hr
  |some r=>exact agL hm hl ho Ξ hc hr
 |insert t x y z=>exact agD ak hm hl ho Ξ hc hr
 |next x b=>
  cases b with
  |true=>exact agO ak hm hl ho Ξ hc hr
  |false=>simp only[cQ,Ξ]at hc;cases hc
 |binOp op t x y ty=>
  have AY:=hc
  simp only[cQ,Ξ]at hc;split at hc
  ·rename_i h1 h2 h3;cases hc;exact WC ak hm hl ho Ξ h2 h3 hr
  ·rename_i h1 h2 h3;cases hc;exact WC ak hm hl ho Ξ h2 h3 hr
  ·rename_i h1 h2 h3;split at hc
   ·cases hc;exact WD ak hm hl ho Ξ h2 h3 h1 (neg:=false) rfl hr
   ·cases hc;exact WD ak hm hl ho Ξ h2 h3 h1 (neg:=true) rfl hr
   ·cases hc
  ·rename_i h1 h2 h3;split at hc
   ·rename_i hf;cases hc;exact I1 ak hm hl ho Ξ h2 h3 hf (neg:=false) rfl hr
   ·rename_i hf;cases hc;exact I1 ak hm hl ho Ξ h2 h3 hf (neg:=true) rfl hr
   ·cases hc
  ·rename_i h1 h2 h3;split at hc
   ·rename_i hf;cases hc;exact I1 ak hm hl ho Ξ h2 h3 hf (neg:=false) rfl hr
   ·rename_i hf;cases hc;exact I1 ak hm hl ho Ξ h2 h3 hf (neg:=true) rfl hr
   ·cases hc
  ·rename_i h1 h2 h3;exact Ed ak hm hl ho Ξ h2 hc (fun v hv=>⟨⟨_,h1⟩,hv⟩) hr
  ·rename_i h1 h2 h3;exact Ed ak hm hl ho Ξ h2 hc (fun v hv=>⟨⟨_,h1⟩,hv⟩) hr
  ·rename_i h1 h2 h3;exact Ed ak hm hl ho Ξ h2 hc (fun v hv=>⟨⟨_,_,_,h1⟩,hv⟩) hr
  ·rename_i h1 h2 h3;exact Ed ak hm hl ho Ξ h2 hc (fun v hv=>⟨⟨_,h1⟩,hv⟩) hr
  ·rename_i h1 h2 h3;exact Ed ak hm hl ho Ξ h2 hc (fun v hv=>⟨⟨_,_,h1⟩,hv⟩) hr
  ·cases hc
 |makeSlice t x y=>exact agM ak hm hl ho Ξ hc hr
 |call c=>
  cases hb:c.callee with
  |value f=>
   simp only[cQ,Ξ,hb]at hc
   split at hc
   ·by_cases rJ:LN bf o.dst=true
    ·rw[if_pos rJ]at hc;split at hc
     ·cases hc;exact absurd rfl (yZ _ _).1
     ·cases hc;simp[aH]at hr
    rw[if_neg rJ]at hc;by_cases mF:AB bf o.dst=true
    ·rw[if_pos mF]at hc;cases hc;exact absurd rfl (yZ _ _).2
    ·rw[if_neg mF]at hc;cases hc;exact absurd rfl (yZ _ _).1
   ·cases hc
  |invoke r n=>simp only[cQ,Ξ,hb]at hc;cases hc
  |builtin b=>
   cases b<;>first
    |exact agq ak hm hl ho Ξ hb hc hr
    |exact agG ak hm hl ho Ξ hb hc hr
    |exact agy ak hm hl ho Ξ hb hc hr
    |exact agx ak hm hl ho Ξ hb hc hr
    |exact agv ak hm hl ho Ξ hb hc hr
    |exact WG ak hm hl ho Ξ (.inl hb) hc hr
    |exact WG ak hm hl ho Ξ (.inr hb) hc hr
    |(simp only[cQ,Ξ,hb]at hc;cases hc)
 |_=>simp only[cQ,Ξ]at hc;cases hc
end
structure KM (m m':Mem):Prop where
 len:m.ε.length<=m'.ε.length
 ζ:∀id,id∈m.ζ->id∈m'.ζ
 cells:∀id l',m'.ε[id]?=some (.cells l')->id<m.ε.length->id∉m'.ζ->∀v∈l',(∃l,m.ε[id]?=some (.cells l)/\v∈l)\/lo id v=true
theorem KM.refl(m:Mem):KM m m:=⟨bA _,fun _ h=>h,fun _ l' h _ _ _ hv=> .inl ⟨l',h,hv⟩⟩
theorem KM.trans{a b c:Mem}(h:KM a b)(k:KM b c):KM a c:= {
 len:=uZ h.len k.len
 ζ id hid:=k.ζ id (h.ζ id hid)
 cells id l' hl hid oS v hv:=by
  rcases k.cells id l' hl (kj hid h.len) oS v hv with⟨l,h1,h2⟩|h1
  ·exact h.cells id l h1 hid (fun hn=>oS (k.ζ id hn)) v h2
  ·exact .inr h1}
theorem KM.push(m:Mem)(b:θ):KM m (m.push b):= {
 len:=by simp[Mem.push]
 ζ _ h:=h
 cells id l' hl hid _ v hv:=by simp only[Mem.push]at hl;rw[eo hid]at hl;exact .inl ⟨l',hl,hv⟩}
theorem KM.set{m:Mem}{i:Nat}{b:θ}(hb:∀l,b≠ .cells l)(t:Bool):KM m (m.put i b t):= {
 len:=by simp[Mem.put]
 ζ id h:=by simp only[Mem.put];split<;>simp[h]
 cells id l' hl _ _ v hv:=by
  simp only[Mem.put,wx]at hl;split at hl
  ·split at hl
   ·cases hl;exact absurd rfl (hb _)
   ·cases hl
  ·exact .inl ⟨l',hl,hv⟩}
def KC(c:cu):Prop:=∀fv args m r m',c fv args m=some (r,m')->KM m m'
theorem P4{lk mem p vs u m'}(h:wr lk mem p vs=some (u,m')):KM mem m':=by
 unfold wr at h;split at h
 ·split at h
  ·split at h
   ·simp only[bc,az]at h;rw[<-h.2];exact KM.refl _
   ·cases h
  ·cases h
 ·split at h
  ·rename_i id off _ l hb;split at h
   ·simp only[bc,az]at h;rw[<-h.2];refine⟨by simp[Mem.put],fun i hi=>by simp only[Mem.put];split<;>simp[hi],fun i l' hl hi oS v hv=>?_⟩;simp only[Mem.put,wx]at hl oS;split at hl
    ·rename_i yT;subst yT;split at hl
     ·simp only[bc,θ.cells.injEq]at hl;subst hl;have jL:bo id (vs.map mem.ν)=true:=by
       cases hc:bo id (vs.map mem.ν)with
       |true=>rfl
       |false=>rw[hc]at oS;simp at oS
      unfold dd at hv;rcases dE.1 hv with hv|hv
      ·rcases dE.1 hv with hv|hv
       ·exact .inl ⟨l,hb,pn hv⟩
       ·right;rw[np,dS]at jL;exact jL v hv
      ·exact .inl ⟨l,hb,tM hv⟩
     ·omega
    ·exact .inl ⟨l',hl,hv⟩
   ·cases h
  ·cases h
 ·cases h
theorem Wu{lk mem oG dst l v u m'}(h:newVar lk mem oG dst l=some (v,u,m')):KM mem m':=by
 unfold newVar at h;split at h
 ·simp only[bc,az]at h;rw[<-h.2.2];exact KM.push _ _
 ·split at h
  ·simp only[bc,az]at h;rw[<-h.2.2];exact KM.refl _
  ·cases h
theorem YA{mem ag sz bytes e x y v m'}(h:gA mem ag sz bytes e x y=some (v,m')):KM mem m':=by
 unfold gA at h;split at h
 ·split at h
  ·split at h
   ·simp only[bc,az]at h;rw[<-h.2];exact KM.refl _
   ·simp only[bc,az]at h;rw[<-h.2];exact KM.push _ _
   ·simp only[bc,az]at h;rw[<-h.2];exact KM.push _ _
   ·split at h
    ·split at h
     ·simp only[bc,az]at h;rw[<-h.2];exact KM.set (fun _ h=>by cases h) _
     ·cases h
    ·cases h
   ·cases h
  ·cases h
 ·cases h
theorem Yz{mem ag sz bytes x y v m'}(h:wC mem ag sz bytes x y=some (v,m')):KM mem m':=by
 unfold wC at h;split at h
 ·split at h
  ·split at h
   ·simp only[bc,az]at h;rw[<-h.2];exact KM.refl _
   ·simp only[bc,az]at h;rw[<-h.2];exact KM.push _ _
  ·cases h
 ·cases h
theorem abj{mem v v' m'}(h:fz mem v=some (v',m')):KM mem m':=by
 unfold fz at h;split at h
 ·simp only[bc,az]at h;rw[<-h.2];exact KM.refl _
 ·split at h
  ·split at h
   ·simp only[bc,az]at h;rw[<-h.2];exact KM.set (fun _ h=>by cases h) _
   ·cases h
  ·cases h
 ·cases h
theorem YQ{ev lk mem dst o v u m'}{c:cu}(hc:KC c)(h:aH ev lk mem c dst o=some (v,u,m')):KM mem m':=by
 cases o<;>simp only[aH]at h
 case bad=>cases h
 case alloc=>exact Wu h
 case box=>
  split at h
  ·exact Wu h
  ·cases h
 case st=>
  split at h
  ·simp only[bE,az,Prod.exists]at h;obtain⟨_,_,h1,_,_,rfl⟩:=h;exact P4 h1
  ·cases h
 case mapup=>
  (repeat' split at h)<;>first|(cases h;done)|skip
  simp only[bE,az]at h;obtain⟨_,_,_,_,rfl⟩:=h;exact KM.set (fun _ h=>by cases h) _
 case del=>
  (repeat' split at h)<;>first|(cases h;done)|skip
  simp only[bE,az]at h;obtain⟨_,_,_,_,rfl⟩:=h;exact KM.set (fun _ h=>by cases h) _
 case abld=>simp only[bc,az]at h;rw[<-h.2.2];exact KM.push _ _
 case mkmap=>simp only[bc,az]at h;rw[<-h.2.2];exact KM.push _ _
 case mkslc=>
  (repeat' split at h)<;>first|(cases h;done)|skip
  simp only[bc,az]at h;rw[<-h.2.2];exact KM.push _ _
 case cpy=>
  (repeat' split at h)<;>first|(cases h;done)|skip
  simp only[bE,az,Prod.exists]at h;obtain⟨_,_,h1,_,_,rfl⟩:=h;exact P4 h1
 case clr=>
  split at h
  ·simp only[bc,az]at h;rw[<-h.2.2];exact KM.refl _
  ·split at h
   ·simp only[bc,az]at h;rw[<-h.2.2];exact KM.refl _
   ·simp only[bE,az,Prod.exists]at h;obtain⟨_,_,h1,_,_,rfl⟩:=h;exact P4 h1
  ·cases h
 case call=>
  simp only[bE,az,Prod.exists]at h
  obtain⟨_,_,h1,_,_,rfl⟩:=h;exact hc _ _ _ _ _ h1
 case app=>
  simp only[bE,az,Prod.exists]at h
  obtain⟨_,_,h1,_,_,rfl⟩:=h;exact YA h1
 case appm=>
  simp only[bE,az,Prod.exists]at h
  obtain⟨_,_,h1,_,_,rfl⟩:=h;exact Yz h1
 case callz=>
  split at h
  ·rename_i h0;simp only[bE,az,Prod.exists]at h;obtain⟨_,_,h1,_,_,rfl⟩:=h;exact(hc _ _ _ _ _ h0).trans (abj h1)
  ·cases h
 all_goals
  (repeat' split at h)<;>first
   |(cases h;done)
   |(simp only[bc,az]at h;obtain⟨_,_,rfl⟩:=h;exact KM.refl _)
   |(simp only[bE,az]at h;obtain⟨_,_,_,_,rfl⟩:=h;exact KM.refl _)
   |(simp only[bE]at h;obtain⟨_,_,h⟩:=h;(repeat' split at h)<;>(simp only[az]at h;obtain⟨_,_,rfl⟩:=h;exact KM.refl _))
theorem YY{gl o s s'}{c:cu}(hc:KC c)(h:dG gl c o s=some s'):KM s.mem s'.mem:=by
 unfold dG at h;split at h
 ·cases h
 ·split at h
  ·rename_i he;cases h;exact YQ hc he
  ·cases h
 ·cases h;exact KM.refl _
theorem Qq{gl l s s'}{c:cu}(hc:KC c)(h:dT gl c l s=some s'):KM s.mem s'.mem:=by
 induction l generalizing s with
 |nil=>cases h;exact KM.refl _
 |cons o l ih=>
  simp only[dT]at h
  split at h
  ·rename_i he;exact(YY hc he).trans (ih h)
  ·cases h
theorem Kg{gl l s tr}{c:cu}(h:ef gl c l s=some tr):tr.length=l.length+1/\tr[0]?=some s/\tr.getLast?=dT gl c l s∧
  ∀i (hi:i<l.length),∃si XL,tr[i]?=some si/\tr[i+1]?=some XL/\dG gl c l[i] si=some XL:=by
 induction l generalizing s tr with
 |nil=>cases h;exact⟨rfl,rfl,rfl,fun i hi=>by simp at hi⟩
 |cons o l ih=>
  simp only[ef]at h
  split at h
  ·rename_i s' he;simp only[bE]at h;obtain⟨tr',h1,rfl⟩:=h;obtain⟨k1,k2,k3,k4⟩:=ih h1;refine⟨by simp[k1],rfl,?_,fun i hi=>?_⟩
   ·simp only[dT,he,<-k3];cases tr' with
    |nil=>simp at k1
    |cons a t=>simp
   ·cases i with
    |zero=>exact⟨s,s',rfl,by simpa using k2,he⟩
    |succ i=>simpa using k4 i (by simpa using hi)
  ·cases h
theorem YH{gl l cf af s s'}{c:cu}(h:eU gl c l cf af s=some s'):dT gl c l s=some s':=by
 unfold eU at h;split at h
 ·rename_i tr Be;split at h
  ·rw[<-(Kg Be).2.2.1];exact h
  ·cases h
 ·cases h
theorem XG{n:Nat}:∀(t:List Nat) (bs:List θ) (id:Nat),id∉t->(lS n t bs)[id]?=bs[id]?
 |[],_,_,_=>rfl
 |i::t,bs,id,h=>by
  simp only[cw,not_or]at h;simp only[lS];rw[XG t _ id h.2];split
  ·rw[List.getElem?_set_ne (fun e=>h.1 e.symm)]
  ·rfl
theorem XF{n:Nat}:∀(t:List Nat) (bs:List θ),(lS n t bs).length=bs.length
 |[],_=>rfl
 |i::t,bs=>by simp only[lS];rw[XF t];split<;>simp
theorem Kk{m0 m:Mem}(h:m0.ε.length<=m.ε.length):(m0.back m).ε.length=m0.ε.length:=by simp only[Mem.back,XF,kE];omega
theorem QC{m0 m:Mem}(hlen:m0.ε.length<=m.ε.length)
  (hc:∀id l',m.ε[id]?=some (.cells l')->id<m0.ε.length->id∉m.ζ->∀v∈l',(∃l,m0.ε[id]?=some (.cells l)/\v∈l)\/lo id v=true):KM m0 (m0.back m):= {
 len:=by rw[Kk hlen];exact bA _
 ζ id h:=by simp only[Mem.back];exact Ab _ h
 cells id l' hl hid oS v hv:=by
  simp only[Mem.back]at hl oS;by_cases ht:id∈m.ζ
  ·have eh:bo id l'=true:=by
    cases hc:bo id l' with
    |true=>rfl
    |false=>
     exfalso;apply oS
     refine BY _ (Ac.2 ⟨ht,?_⟩);rw[hl];simp[θ.clean,hc]
   rw[np,dS]at eh;exact .inr (eh v hv)
  ·rw[XG _ _ _ ht,Aa]at hl;rw[if_pos hid]at hl;exact hc id l' hl hid ht v hv}
def J5(lp:pq):Prop:=∀b:St->Option (Ex×St),(∀s e s',b s=some (e,s')->KM s.mem s'.mem)->∀s e s',lp b s=some (e,s')->KM s.mem s'.mem
theorem Fb(n:Nat):J5 (fN n):=by
 intro b hb s e s' h;induction n generalizing s with
 |zero=>simp[fN]at h
 |succ n ih=>
  simp only[fN]at h
  split at h
  ·rename_i he;exact(hb _ _ _ he).trans (ih _ h)
  ·exact hb _ _ _ h
theorem ah'{d:Nat}{s s':St}(h:El d s=some s'):KM s.mem s'.mem:=by
 unfold El at h
 (repeat' split at h)<;>first|(cases h;done)|(cases h;exact KM.push _ _)
theorem Xa:∀{l:List Nat} {s s':St},By l s=some s'->KM s.mem s'.mem
 |[],s,s',h=>by cases h;exact KM.refl _
 |d::l,s,s',h=>by
  simp only[By]at h;split at h
  ·rename_i h1;exact(ah' h1).trans (Xa h)
  ·cases h
theorem yy{gl}{c:cu}{lp:pq}(hc:KC c)(hl:J5 lp)(a:AC):∀s e s',exec gl c lp a s=some (e,s')->KM s.mem s'.mem:=by
 induction a with
 |skip=>intro s e s' h;cases h;exact KM.refl _
 |ops l=>
  intro s e s' h
  simp only[exec,bE,az]at h;obtain⟨_,h1,_,rfl⟩:=h;exact Qq hc h1
 |draw l cf af=>
  intro s e s' h
  simp only[exec,bE,az]at h;obtain⟨_,h1,_,rfl⟩:=h;exact Qq hc (YH h1)
 |seq a b dK gu=>
  intro s e s' h
  simp only[exec]at h;split at h
  ·rename_i he;exact(dK _ _ _ he).trans (gu _ _ _ h)
  ·exact dK _ _ _ h
 |cond x a b dK gu=>
  intro s e s' h
  simp only[exec]at h;split at h
  ·split at h
   ·exact dK _ _ _ h
   ·exact gu _ _ _ h
  ·cases h
 |block id a dK=>
  intro s e s' h
  simp only[exec]at h;split at h
  ·rename_i he;split at h<;>(cases h;exact dK _ _ _ he)
  ·exact dK _ _ _ h
 |loop a dK=>intro s e s' h;exact hl _ dK _ _ _ h
 |exit id=>intro s e s' h;cases h;exact KM.refl _
 |ret=>intro s e s' h;cases h;exact KM.refl _
 |BC f ps fO body _ _=>
  intro s e s' h
  simp only[exec]at h;split at h
  ·rename_i r m iQ;obtain⟨fv,_,iQ⟩:=B8.1 iQ;have hk:=hc _ _ _ _ _ iQ;have xh:KM s.mem (s.mem.back m):=by
    have hlen:=hk.len;simp only[List.length_append,cE,eI]at hlen;refine QC (by omega) (fun id l' hl hid oS v hv=>?_);rcases hk.cells id l' hl (by simp;omega) oS v hv with⟨l,h1,h2⟩|h1
    ·rw[eo hid]at h1;exact .inl ⟨l,h1,h2⟩
    ·exact .inr h1
   split at h<;>first|(cases h;exact xh)|cases h
  ·cases h
 |Ek ds=>
  intro s e s' h
  simp only[exec,bE,az]at h;obtain⟨_,h1,_,rfl⟩:=h;exact Xa h1
 |bad=>intro s e s' h;cases h
theorem BG(m:Mem)(l:Nat)(st:LS):KM m (m.kV l st):=by
 unfold Mem.kV;split
 ·exact KM.set (t:=true) (fun _ h=>by cases h)
 ·exact KM.refl _
theorem aiN{gl}{c:cu}{lp:pq}(hc:KC c)(hl:J5 lp){l args mem r m'}(h:round (exec gl c lp) l args mem=some (r,m')):KM mem m':=by
 unfold round at h;split at h
 ·split at h
  ·split at h
   ·rename_i he;have h1:=yy hc hl _ _ _ _ he;split at h
    ·split at h
     ·rename_i l7;have h2:=yy hc hl _ _ _ _ l7;split at h
      ·cases h;exact h1.trans ((BG _ _ _).trans (h2.trans (BG _ _ _)))
      ·cases h
     ·rename_i l7;have h2:=yy hc hl _ _ _ _ l7;split at h
      ·cases h;exact h1.trans ((BG _ _ _).trans (h2.trans (BG _ _ _)))
      ·cases h
     ·rename_i l7;have h2:=yy hc hl _ _ _ _ l7;split at h
      ·cases h;exact h1.trans ((BG _ _ _).trans (h2.trans (BG _ _ _)))
      ·cases h
     ·cases h
    ·cases h
   ·cases h
  ·cases h
 ·cases h
theorem SX{g:AF}{k:Bool}{m0:Mem}{ex:Ex}{s:St}{r m'}(h:fin g k m0 (some (ex,s))=some (r,m'))(hk:KM {ε:=m0.ε,ζ:=[]} s.mem):KM m0 m':=by
 have key:∀r m',(match cH s g.results with
   |some l=>if k then some (exp s.mem.ε.length true (cJ l),({ε:=s.mem.ε,ζ:=m0.ζ++s.mem.ζ}:Mem))
    else some (aK s.mem.ε m0.ε.length 8 (cJ l),m0.back s.mem)
   |none=>none)=some (r,m')->KM m0 m':=by
  intro r m' h;split at h
  ·split at h
   ·simp only[bc,az]at h;rw[<-h.2];exact⟨hk.len,fun id hid=>Ab _ hid,fun id l' hl hid oS v hv=>hk.cells id l' hl hid (fun hn=>oS (BY _ hn)) v hv⟩
   ·simp only[bc,az]at h;rw[<-h.2];exact QC hk.len (fun id l' hl hid oS v hv=>hk.cells id l' hl hid oS v hv)
  ·cases h
 cases ex with
 |exit id=>simp[fin]at h
 |normal=>exact key r m' h
 |ret=>exact key r m' h
theorem Lg(C:iK)(hp:∀f p,C.iX f=some p->∀args m r m',p args m=some (r,m')->KM m m')(n:Nat):KC (cv C n):=by
 induction n with
 |zero=>intro fv args m r m' h;simp[cv]at h
 |succ n ih=>
  intro fv args m r m' h
  simp only[cv,body]at h;split at h
  ·split at h
   ·rename_i p hpp;exact hp _ _ hpp _ _ _ _ h
   ·split at h
    ·rename_i g hg;generalize he:exec C.gl (cv C n) (fN n) g.code _=x at h;cases x with
     |none=>simp[fin]at h
     |some x=>
      obtain⟨ex,s⟩:=x
      exact SX h (yy ih (Fb n) _ _ _ _ he)
    ·cases h
  ·split at h
   ·rename_i g hg;generalize he:exec C.gl (cv C n) (fN n) g.code _=x at h;cases x with
    |none=>simp[fin]at h
    |some x=>
     obtain⟨ex,s⟩:=x
     exact SX h (yy ih (Fb n) _ _ _ _ he)
   ·cases h
  ·exact aiN ih (Fb n) h
  ·cases h
section
variable(P:Program)(bf:Nat->Bool)(N:Nat)
def KG(ops:Array Oper):Option (Nat×Bool)->Option (Option (Nat×Bool))
 |none=>some none
 |some (j,want)=>match(ops[j]?).bind (·.dst)with
  |some d=>if d<N then some (some (d,want))else none
  |none=>none
def Lk:Option Nat->Bool
 |none=>true
 |some d=>decide (d<N)
def Fw(ops:Array Oper)(o:Oper):Option aV:=match KG N ops o.guard with
 |some gd=>if Lk N o.dst then some {dst:=o.dst,op:=Sd P bf o,guard:=gd}else none
 |none=>none
def tU(ops:Array Oper):List Oper->Option (List aV)
 |[]=>some []
 |o::l=>match Fw P bf N ops o,tU ops l with
  |some x,some m=>some (x::m)
  |_,_=>none
end
def mP(g:Gh)(gl:Nat->AV):Prop:=∀n,VR g bV (gl n) (.pointer (some ⟨n,0,none⟩))
def zr(r:Nat):Deferred:= {target:= .collected r,args:= #[]}
def Marks(cR:Nat)(own:OW)(w:World)(ds:List Deferred):Prop:=
 cR<=w.heap.size/\∃ms:List Nat,ms.Nodup/\ds=ms.map zr/\∀r∈ms,cR<=r/\r<w.heap.size/\own r=none/\w.heap[r]?=some (.deferred (some []))
theorem Marks.nil{cR:Nat}{own:OW}{w:World}(h:cR<=w.heap.size):Marks cR own w []:=⟨h,[],List.nodup_nil,rfl,fun r hr=>by cases hr⟩
theorem Marks.bm{cR:Nat}{g g':Gh}{own aE:OW}{w w':World}{ds:List Deferred}(h:Marks cR own w ds)(hs:eu g own w g' aE w'):Marks cR aE w' ds:=by obtain⟨h0,ms,h1,h2,h3⟩:=h;refine⟨uZ h0 hs.size,ms,h1,h2,fun r hr=>?_⟩;obtain⟨k1,k2,k3,k4⟩:=h3 r hr;exact⟨k1,kj k2 hs.size,hs.jH r k2 k3,(hs.bm r k2 k3).trans k4⟩
structure SR (gl:Nat->AV) (base N:Nat) (LC:eX) (cR:Nat) (g:Gh) (lb:LB) (own:OW) (s:St) (a:Act) (w:World):Prop where
 env:∀t,VR g lb (aI s.env t) (a.tmps.getD t undef)
 gl:mP g gl
 size:N<=a.tmps.size
 defers:Marks cR own w a.defers
 mem:a_ g own LC s.mem w
 loc:cx g lb own (bQ s.loc) w
 own:bT base own w
def er(own:OW):OW:=fun b=>match own b with
 |some (.m id)=>some (.m id)
 |_=>none
def tH(F:Fence)(n:Nat)(P:Program)(fx:Value)(bN:Array Value)(w:World)(R:Value->World->Prop):Prop:=
 (∃(f:FuncId) (as:Array Value),(do let d<-Deferred.ofValue fx bN;invoke d.target d.args:Sem Next).run P w= .ok (.enter f as) w/\CallsIn F n P f as w fun e w'=>∃x,e= .returned x/\R x w')∨
 (∃x w',(do let d<-Deferred.ofValue fx bN;invoke d.target d.args:Sem Next).run P w= .ok (.value x) w'/\R x w')∨
 (∃(l:Nat) (f:FuncId) (tmps:Array Value) (assign body:Code),(do let d<-Deferred.ofValue fx bN;invoke d.target d.args:Sem Next).run P w= .ok (.round l f tmps assign body) w∧
  RoundIn F n P l f tmps assign body w fun e w'=>∃x,e= .returned x/\R x w')
def lT(base:Nat)(LC:eX)(gl:Nat->AV)(g:Gh)(own:OW)(w:World)(r:AV)(m':Mem)(x:Value)(w':World):Prop:=
 ∃(g':Gh) (aE:OW),eu g (er own) w g' aE w'/\a_ g' aE LC m' w'/\VR g' bV r x/\bT base aE w'/\(∀b d,aE b≠some (.l d))/\mP g' gl
def nA(F:Fence)(P:Program)(base:Nat)(LC:eX)(gl:Nat->AV)(ax:cu):Prop:=
 ∀(n:Nat) (g:Gh) (lb:LB) (own:OW) (mem:Mem) (w:World) (fv:AV) (args:List AV) (r:AV) (m':Mem) (fx:Value) (bN:Array Value),
  a_ g own LC mem w->bT base own w->mP g gl->VR g lb fv fx->PW (VR g lb) args bN.toList->ax fv args mem=some (r,m')→
  tH F n P fx bN w (lT base LC gl g own w r m')
section
variable{F:Fence}{n:Nat}{P:Program}{bf:Nat->Bool}{N:Nat}{gl:Nat->AV}{base:Nat}{LC:eX}{cR:Nat}{g:Gh}{lb:LB}{own:OW}{s s':St}{a:Act}{w:World}{ax:cu}
variable{ops:Array Oper}{Q:Exit->Act->World->Prop}
theorem mP.mono{g':Gh}(h:mP g gl)(hs:g.sub g'):mP g' gl:=fun n=>(h n).sub hs
theorem SR.ev(h:SR gl base N LC cR g lb own s a w):eS g lb (dr gl s.env) a:=by
 intro x x' hx;cases x with
 |tmp t=>cases hx;exact h.env t
 |const v=>
  simp only[cB,bE]at hx
  obtain⟨av,ME,rfl⟩:=hx;exact Kc ME
 |global i=>
  cases hx
  exact(h.gl i).mono g.eP fun _ _ _ h=>by cases h
 |func f=>
  cases hx
  exact .fn _ _ _ _ _ _ _ rfl rfl rfl (fun i hi=>by simp at hi) (fun i hi=>by simp at hi)
theorem abo(a:Act)(dst:Option Nat)(v:Value)(hd:∀d,dst=some d->d<a.tmps.size)(t:Nat):
  (a.put dst v).tmps.getD t undef=if dst=some t then v else a.tmps.getD t undef:=by
 cases dst with
 |none=>simp[Act.put]
 |some d=>
  have:=hd d rfl
  simp only[Act.put,ou,al2,bc];by_cases h:d=t
  ·subst h;simp[this]
  ·simp[h]
theorem vd(env:List AV)(dst:Option Nat)(v:AV)(t:Nat):aI (ff env dst v) t=if dst=some t then v else aI env t:=by
 cases dst with
 |none=>simp[ff]
 |some d=>simp[ff,fA]
theorem Pp(a:Act)(dst:Option Nat)(v:Value):(a.put dst v).tmps.size=a.tmps.size:=by cases dst<;>simp[Act.put]
theorem aic(a:Act)(dst:Option Nat)(v:Value):(a.put dst v).defers=a.defers:=by cases dst<;>rfl
theorem SR.after(h:SR gl base N LC cR g lb own s a w){dst:Option Nat}(hd:Lk N dst=true){v:AV}{u:kG}{m':Mem}{x:Value}{w':World}(hp:h_ base LC g lb own (bQ s.loc) w v u m' x w'):
  ∃g' lb' aE,eu g own w g' aE w'/\SR gl base N LC cR g' lb' aE {env:=ff s.env dst v,loc:=eH s.loc u,mem:=m'} (a.put dst x) w':=by
 obtain⟨g',lb',aE,h1,h2,h3,h4,h5,h6⟩:=hp;have kx:∀d,dst=some d->d<a.tmps.size:=by
  rintro d rfl
  simp only[Lk,decide_eq_true_eq]at hd;exact kj hd h.size
 refine⟨g',lb',aE,h1,fun t=>?_,h.gl.mono h1.sub,by rw[Pp];exact h.size,by rw[aic];exact h.defers.bm h1,h4,by rw[OK];exact h5,h6⟩;rw[abo a dst x kx,vd];split
 ·exact h3
 ·exact(h.env t).mono h1.sub h2
theorem Yc(h:SR gl base N LC cR g lb own s a w){o:Oper}{gd:Option (Nat×Bool)}(hg:KG N ops o.guard=some gd){b:Bool}(hw:eR s.env gd=some b):
  Region.wanted o (yielded ops a.tmps)=b:=by
 unfold Region.wanted;cases oM:o.guard with
 |none=>
  rw[oM]at hg;cases hg
  cases hw;rfl
 |some jw=>
  obtain⟨j,want⟩:=jw
  rw[oM]at hg;simp only[KG]at hg;split at hg
  ·rename_i d hd;split at hg
   ·rename_i hdn;cases hg;simp only[eR]at hw;have χ:d<a.tmps.size:=kj hdn h.size;have hv:=h.env d;have kN:a.tmps[d]?=some (a.tmps.getD d undef):=by simp[ou,χ]
    simp only[yielded,hd,Option.bind_some,kN];generalize a.tmps.getD d undef=x at hv;split at hw
    ·rename_i b' he;rw[he]at hv;cases hv;cases hw;rfl
    ·rename_i he;rw[he]at hv;cases hv;cases hw;rfl
    ·cases hw
   ·cases hg
  ·cases hg
theorem uI{b:Nat}{o:Own}(h:er own b=some o):own b=some o/\∃id,o= .m id:=by
 unfold er at h;split at h
 ·rename_i id he;cases h;exact⟨he,id,rfl⟩
 ·cases h
theorem Fz(hs:SR gl base N LC cR g lb own s a w){r:AV}{m':Mem}{x:Value}{w':World}(h:lT base LC gl g own w r m' x w'):h_ base LC g lb own (bQ s.loc) w r none m' x w':=by
 obtain⟨g',aE,h1,h2,h3,h4,h5,h6⟩:=h;let uG:OW:=fun b=>match own b with
  |some (.l d)=>some (.l d)
  |_=>aE b
 have hl:∀b d,own b=some (.l d)->b<w.heap.size/\er own b=none:=fun b d hb=>⟨(hs.own.ge b _ hb).2,by simp[er,hb]⟩;have acI:∀b id,aE b=some (.m id)->uG b=aE b:=by
  intro b id hb;simp only[uG];split
  ·rename_i d hd;obtain⟨k1,k2⟩:=hl b d hd;rw[h1.jH b k1 k2]at hb;cases hb
  ·rfl
 have Dw:∀b,own b=none->er own b=none:=fun b hb=>by simp[er,hb]
 refine⟨g',lb,uG,⟨h1.sub,h1.size,h1.os,h1.tape,h1.output,fun b hb ho=>h1.bm b hb (Dw b ho),fun b hb ho=>?_,fun b hb ho=>h1.im b hb (Dw b ho)⟩,fun _ _ _ h=>h,
  h3.mono g'.eP (fun _ _ _ h=>by cases h),?_,?_,⟨fun b o hb=>?_,h4.base⟩⟩
 ·simp only[uG,ho];exact h1.jH b hb (Dw b ho)
 ·exact h2.bm g'.eP (fun _ h=>h) (fun _ _ h=>h) (fun id b hb=>⟨acI b id hb,rfl,fun _=>rfl⟩) h2.im
 ·exact hs.loc.bm h1.sub fun d b hb=>by obtain⟨k1,k2⟩:=hl b d hb;exact⟨by simp[uG,hb],h1.bm b k1 k2,h1.im b k1 k2⟩
 ·simp only[uG]at hb;split at hb
  ·rename_i d hd;have:=hs.own.ge b _ hd;exact⟨this.1,kj this.2 h1.size⟩
  ·exact h4.ge b o hb
theorem aaf{o:Oper}(h:cQ P bf o≠none):∀c,o.op≠ .defer c:=by intro c hc;apply h;simp only[cQ,hc]
def AO.Cm:AO->Option (bw×List bw)
 | .call f l=>some (f,l)
 | .callz f l=>some (f,l)
 |_=>none
theorem aae{o:Oper}{f':bw}{args':List bw}{ao:AO}(nR:ao.Cm=some (f',args'))(cI:cQ P bf o=some ao):
  ∃c f,o.op= .call c/\c.callee= .value f/\(cB f=some f'\/∃k,f= .func k/\f'= .c (.fn (.methodOf k "") [] []))/\wE c.args.toList=some args':=by
 have hm:∀{α:Type} {x:Option α} {h:α->AO},x.map h=some ao->(∀y,(h y).Cm=none)->False:=fun hx hn=>by simp only[bE]at hx;obtain⟨y,_,rfl⟩:=hx;rw[hn y]at nR;cases nR
 have hs:∀{x:AO},some x=some ao->x.Cm=none->False:=fun hx hn=>by cases hx;rw[hn]at nR;cases nR
 cases Ξ:o.op with
 |call c=>
  simp only[cQ,Ξ]at cI
  cases rG:c.callee with
  |value f=>
   rw[rG]at cI
   dsimp only at cI;split at cI
   ·rename_i h1 h2;by_cases rJ:LN bf o.dst=true
    ·rw[if_pos rJ]at cI;split at cI
     ·cases cI;cases nR;exact⟨c,_,rfl,rG,.inr ⟨_,rfl,rfl⟩,h2⟩
     ·cases cI;cases nR
    rw[if_neg rJ]at cI;by_cases mF:AB bf o.dst=true
    ·rw[if_pos mF]at cI;cases cI;cases nR;exact⟨c,f,rfl,rG,.inl h1,h2⟩
    ·rw[if_neg mF]at cI;cases cI;cases nR;exact⟨c,f,rfl,rG,.inl h1,h2⟩
   ·cases cI
  |invoke r n=>rw[rG]at cI;cases cI
  |builtin b=>
   exfalso
   rw[rG]at cI;cases b<;>dsimp only at cI<;>(try(cases cI;done))<;>(repeat' split at cI)<;>first|(cases cI;done)|exact hs cI rfl|exact hm cI (fun _=>rfl)
 |makeFunc fn x y=>
  exfalso
  cases fn<;>simp only[cQ,Ξ]at cI<;>(repeat' split at cI)<;>first|(cases cI;done)|exact hs cI rfl
 |makeMap t r=>
  exfalso
  cases r with
  |none=>simp only[cQ,Ξ]at cI;first|(cases cI;done)|exact hs cI rfl
  |some r=>
   cases r with
   |const c=>
    cases c with
    |int k n=>
     simp only[cQ,Ξ]at cI
     (repeat' split at cI)<;>first|(cases cI;done)|exact hs cI rfl
    |_=>simp only[cQ,Ξ]at cI;first|(cases cI;done)|exact hs cI rfl
   |_=>simp only[cQ,Ξ]at cI;first|(cases cI;done)|exact hs cI rfl
 |next x b=>exfalso;cases b<;>simp only[cQ,Ξ]at cI<;>first|(cases cI;done)|exact hs cI rfl|exact hm cI (fun _=>rfl)
 |binOp op t x y ty=>
  exfalso
  have hn:∀k x' y',u9 k op x' y'≠some ao:=fun k x' y' h=>by
   unfold u9 at h
   (repeat' split at h)<;>first|(cases h;done)|exact hs h rfl
  simp only[cQ,Ξ]at cI
  (repeat' split at cI)<;>first|(cases cI;done)|exact hs cI rfl|exact hn _ _ _ cI
 |_=>
  exfalso
  simp only[cQ,Ξ]at cI
  (repeat' split at cI)<;>first|(cases cI;done)|exact hs cI rfl|exact hm cI (fun _=>rfl)
theorem Au(s:Nat):∀(m:Nat) (l:List AV),(chunk s m l).length=m:=by
 intro m;induction m with
 |zero=>intro l;rfl
 |succ m ih=>intro l;simp[chunk,ih]
theorem FE(s:Nat):∀(m:Nat) (l:List AV) (i:Nat) (h:i<(chunk s m l).length),(chunk s m l)[i]= .agg ((l.drop (i*s)).take s):=by
 intro m;induction m with
 |zero=>intro l i h;simp[chunk]at h
 |succ m ih=>
  intro l i h
  cases i with
  |zero=>simp[chunk]
  |succ i=>
   simp only[chunk,qY]
   rw[ih];rw[ov,kF,alX,Ae]
theorem tH.mono{F:Fence}{n:Nat}{fx:Value}{bN:Array Value}{w:World}{R R':Value->World->Prop}(h:tH F n P fx bN w R)(k:∀x w',R x w'->R' x w'):tH F n P fx bN w R':=by
 rcases h with⟨f,as,h1,h2⟩|⟨x,w',h1,h2⟩|⟨l,f,tmps,fO,wD,h1,h2⟩
 ·exact .inl ⟨f,as,h1,h2.mono fun e w' ⟨x,h3,h4⟩=>⟨x,h3,k _ _ h4⟩⟩
 ·exact .inr (.inl ⟨x,w',h1,k _ _ h2⟩)
 ·exact .inr (.inr ⟨l,f,tmps,fO,wD,h1,h2.mono fun e w' ⟨x,h3,h4⟩=>⟨x,h3,k _ _ h4⟩⟩)
theorem lT.fz{r r2:AV}{m1 m2:Mem}{x:Value}{w':World}(h:lT base LC gl g own w r m1 x w')(hz:Δ.fz m1 r=some (r2,m2)):lT base LC gl g own w r2 m2 x w':=by
 obtain⟨g',aE,h1,h2,h3,h4,h5,h6⟩:=h;unfold Δ.fz at hz;split at hz
 ·cases hz;exact⟨g',aE,h1,h2,h3,h4,h5,h6⟩
 ·rename_i kd id off n cp;split at hz
  ·rename_i l hl;split at hz
   ·rename_i hc;obtain⟨sP,rP⟩:=hc;simp only[bc,az]at hz;obtain⟨rfl,rfl⟩:=hz;cases h3 with
    |sl _ _ _ _ _ _ cq b hc eD hb=>
    obtain⟨b2,k1,k2,k3,a,e,k4,k5,k6,k7⟩:=h2.blk id _ hl
    rw[hb]at k1;cases k1;let g2:Gh:= {g' with im:=fun b' o=>if b'=b then a[o]? else g'.im b' o};let pX:OW:=fun b'=>if b'=b then none else aE b';have di:g'.sub g2:=⟨fun b' o y hy=>by
     simp only[g2]
     split
     ·rename_i he;subst he;rw[k3]at hy;cases hy
     ·exact hy,fun _ _ h=>h,fun _ _ _ h=>h⟩
    have lZ:∀o y,a[o]?=some y->w'.cell? ⟨b,o,none⟩=some y:=fun o y hy=>by simp[sx,k4,hy]
    have Ug:∀b',b'<w.heap.size->er own b'=none->b'≠b:=fun b' aT hn he=>by subst he;rw[h1.jH _ aT hn]at k2;cases k2
    refine⟨g2,pX,⟨Gh.BL h1.sub di,h1.size,h1.os,h1.tape,h1.output,h1.bm,fun b' aT hn=>?_,fun b' aT hn o=>?_⟩,?_,?_,⟨fun b' o aT=>?_,h4.base⟩,fun b' d aT=>?_,h6.mono di⟩
    ·simp only[pX];split
     ·rfl
     ·exact h1.jH b' aT hn
    ·simp only[g2];rw[if_neg (Ug b' aT hn)];exact h1.im b' aT hn o
    ·have hid:id<m1.ε.length:=(fu.1 hl).1;refine h2.ER hid di (fun _ h=>h) (fun _ _ _ h=>h) (fun mI b' τ aT=>?_) trivial (fun b' o y hy=>?_)
     ·have rF:b'≠b:=by rintro rfl;rw[k2]at aT;cases aT;exact τ rfl
      exact⟨by simp[pX,rF],rfl,fun o=>by simp[g2,rF]⟩
     ·simp only[g2]at hy;split at hy
      ·rename_i he;subst he;exact lZ o y hy
      ·exact h2.im b' o y hy
    ·have ij:∀q (h:q<a.size),g2.im b q=some a[q]/\a[q].oneCell'=true:=fun q h=>⟨by simp[g2,h],k7 q h⟩;by_cases oQ:kd=0
     ·subst oQ;have rP:=rP rfl;have ab2:off+n<=l.length:=by have e0:al3 0 1=1:=rfl;rw[e0]at sP;omega
      simp only[dS]at rP;have uc:∀v,v∈(l.drop off).take n->v.cells=[v]:=fun v hv=>by have:=rP v hv;cases v<;>simp_all [AV.cells,AV.one]
      rw[if_pos rfl];refine .list _ .any _ b off 1 n cq (fun i _=>a.getD (off+i) undef) (by simp;omega) (by omega) trivial (fun e he=>by rw[uc e he];rfl) (fun i ab j hj=>?_) (fun i ab j hj=>?_)
      ·obtain rfl:j=0:=by omega
       have χ:off+i<a.size:=by omega
       have:=ij (off+i) χ;simpa[ou,χ]using this
      ·simp at ab;have χ:off+i<a.size:=by omega
       have Γ:l[off+i]'(by omega)∈(l.drop off).take n:=by rw[pj];exact⟨i,by simp;omega,by simp⟩
       have e1:(((l.drop off).take n)[i]'(by simp;omega))=l[off+i]'(by omega):=by simp
       have e2:=uc _ Γ;have Nc:j=0:=by have:=hj;simp only[e1,e2,cE,eI]at this;omega
       subst Nc;have:=(k6 (off+i) (by omega) χ).sub di;simp only[e1,e2,lE];simpa[ou,χ]using this
     ·have jM:al3 kd 1=kd:=al4 (by omega);rw[jM]at sP;rw[if_neg oQ];have hbound:∀i j,i<n->j<kd->off+(i*kd+j)<l.length:=by intro i j hi hj;have:=DU hi hj;omega
      refine .list _ .any _ b off kd n cq (fun i j=>a.getD (off+(i*kd+j)) undef) (Au _ _ _) (by omega) trivial (fun e he=>?_) (fun i ab j hj=>?_) (fun i ab j hj=>?_)
      ·obtain⟨i,jg,rfl⟩:=pj.1 he;rw[FE];simp only[AV.cells,kE,kZ];rw[Au]at jg;have h5:(i+1)*kd<=n*kd:=mq _ jg;rw[kF]at h5;omega
      ·have χ:off+(i*kd+j)<a.size:=kj (hbound i j ab hj) k5;have:=ij _ χ;simpa[ou,χ]using this
      ·have jg:i<n:=by rw[Au]at ab;exact ab
       have e0:=FE kd n (l.drop off) i ab;have uh:j<kd:=by have:=hj;rw[e0]at this;simp only[AV.cells,kE,kZ]at this;omega
       have χ:off+(i*kd+j)<a.size:=kj (hbound i j jg uh) k5;have:=(k6 _ (hbound i j jg uh) χ).sub di;have e1:(((chunk kd n (l.drop off))[i]'ab).cells[j]'hj)=l[off+(i*kd+j)]'(hbound i j jg uh):=by simp only[e0,AV.cells];simp[qc]
       rw[e1];simpa[ou,χ]using this
    ·simp only[pX]at aT;split at aT
     ·cases aT
     ·exact h4.ge b' o aT
    ·simp only[pX]at aT;split at aT
     ·cases aT
     ·exact h5 b' d aT
   ·cases hz
  ·cases hz
 ·cases hz
theorem XN(hF:∀f,F.fn f)(hd:F.depth=none)(iQ:nA F P base LC gl ax){i:Nat}{o:Oper}{o':aV}(hi:ops[i]?=some o)(hc:Fw P bf N ops o=some o')
  (hs:SR gl base N LC cR g lb own s a w) (Ω:dG gl ax o' s=some s') {K:Act->World->Prop}
  (hK:∀g' lb' aE a' w',eu g own w g' aE w'->SR gl base N LC cR g' lb' aE s' a' w'->K a' w'):wpOpIn F n P ops Q i K a w:=by
 unfold Fw at hc;split at hc
 ·rename_i gd oM;split at hc
  ·rename_i Db;cases hc;unfold dG at Ω;unfold wpOpIn;simp only[hi];split at Ω
   ·cases Ω
   ·rename_i hw;have xx:=Yc hs oM hw;simp only[xx,if_true];refine⟨fun f _=>hF f,?_⟩;split at Ω
    ·rename_i v u m' he;cases Ω;dsimp only at he;unfold Sd at he;cases cI:cQ P bf o with
     |none=>rw[cI]at he;simp[aH]at he
     |some ao=>
      rw[cI]at he
      simp only[E2]at he;have acX:Oper.semAt F.round a.eval o=execOp a.eval o:=Oper.semAt_eq _ _ _ (aaf (by rw[cI];simp));rw[acX];by_cases eh:∃f args,ao.Cm=some (f,args)
      ·obtain⟨f',args',nR⟩:=eh;have key:=aae nR cI;obtain⟨c,f,Ξ,rG,hf,iG⟩:=key;have cM:=FU hs.ev iG;have xu:VR g lb (dr gl s.env f') (a.eval f):=by
        rcases hf with hf|⟨k,rfl,rfl⟩
        ·exact hs.ev _ _ hf
        ·exact .fn _ _ _ _ _ _ _ rfl rfl rfl (fun i hi=>by simp at hi) (fun i hi=>by simp at hi)
       obtain⟨rfl,C9⟩:u=none/\tH F (n-1) P (a.eval f) (c.args.map a.eval) w (lT base LC gl g own w v m'):=by
        cases ao<;>simp only[AO.Cm,bc,az]at nR<;>first|(cases nR;done)|skip
        ·obtain⟨rfl,rfl⟩:=nR;simp only[aH]at he;split at he
         ·rename_i r m1 he0;simp only[bE,az,Prod.exists]at he;obtain⟨r2,m2,he,rfl,rfl,rfl⟩:=he;exact⟨rfl,(iQ (n-1) g lb own s.mem w _ _ _ _ (a.eval f) (c.args.map a.eval) hs.mem hs.own hs.gl xu (by simpa using cM) he0).mono fun x w' h=>h.fz he⟩
         ·cases he
        ·obtain⟨rfl,rfl⟩:=nR;simp only[aH,bE,az,Prod.exists]at he;obtain⟨r,m1,he,rfl,rfl,rfl⟩:=he;exact⟨rfl,iQ (n-1) g lb own s.mem w _ _ _ _ (a.eval f) (c.args.map a.eval) hs.mem hs.own hs.gl xu (by simpa using cM) he⟩
       have ab1:execOp a.eval o=(do let d<-Deferred.ofValue (a.eval f) (c.args.map a.eval);invoke d.target d.args:Sem Next):=by simp only[execOp,Ξ,resolve,rG]
       rw[ab1];rcases C9 with⟨nP,as,h1,h2⟩|⟨x,w',h1,h2⟩|⟨l,nP,tmps,fO,wD,h1,h2⟩
       ·rw[h1,Oper.uponIn_enter];refine⟨fun h=>(by rw[hd]at h;cases h),h2.mono fun e w' he=>?_⟩;obtain⟨x,rfl,hR⟩:=he;obtain⟨g',lb',aE,k1,k2⟩:=hs.after Db (Fz hs hR);exact hK _ _ _ _ _ k1 k2
       ·rw[h1,Oper.uponIn_value];obtain⟨g',lb',aE,k1,k2⟩:=hs.after Db (Fz hs h2);exact hK _ _ _ _ _ k1 k2
       ·rw[h1,Oper.uponIn_round];refine⟨fun h=>(by rw[hd]at h;cases h),h2.mono fun e w' he=>?_⟩;obtain⟨x,rfl,hR⟩:=he;obtain⟨g',lb',aE,k1,k2⟩:=hs.after Db (Fz hs hR);exact hK _ _ _ _ _ k1 k2
      ·obtain⟨x,w',h1,h2⟩:=agS hs.ev hs.mem hs.loc hs.own cI (fun f args=>⟨fun h=>eh ⟨f,args,by rw[h];rfl⟩,fun h=>eh ⟨f,args,by rw[h];rfl⟩⟩) he;obtain⟨g',lb',aE,k1,k2⟩:=hs.after Db h2;rcases h1 with h1|⟨h1,rfl⟩
       ·rw[h1,Oper.uponIn_value];exact hK _ _ _ _ _ k1 k2
       ·rw[h1,Oper.uponIn_skip];exact hK _ _ _ _ _ k1 k2
    ·cases Ω
   ·rename_i hw;have xx:=Yc hs oM hw;cases Ω;simp only[xx,jI,if_false];refine⟨fun f _=>hF f,?_⟩;obtain⟨g',lb',aE,k1,k2⟩:=hs.after Db (h_.pure (x:=undef) hs.mem hs.loc hs.own (.undef lb));exact hK _ _ _ _ _ k1 k2
  ·cases hc
 ·cases hc
end
def AO.qP:AO->List bw
 | .bad=>[]
 | .mv x=>[x]
 | .pick c a b=>[c,a,b]
 | .alloc _ _=>[]
 | .abld _ _=>[]
 | .box _ _ x=>[x]
 | .build _ parts=>parts.map (·.2.2)
 | .Ap _ _ xs=>xs
 | .ld _ _ a=>[a]
 | .st _ a x=>[a,x]
 | .IX x=>[x]
 | .bin _ x y=>[x,y]
 | .eqs _ _ x y=>[x,y]
 | .CG _ x y=>[x,y]
 | .Ij _ _ x=>[x]
 | .un _ x=>[x]
 | .conv _ x=>[x]
 | .OU _ x=>[x]
 | .zs _ a b=>a++b
 | .fa _ x=>[x]
 | .CM _ _ _ x=>[x]
 | .ia _ x i=>[x,i]
 | .Oe _ _ x i=>[x,i]
 | .Oh _ _ _ x i=>[x,i]
 | .qL x i=>[x,i]
 | .lookup _ _ _ m k=>[m,k]
 | .mapup _ m k v=>[m,k,v]
 | .mkmap=>[]
 | .EH _ x lo hi mx=>x::(lo.toList++hi.toList++mx.toList)
 | .Js x lo hi=>x::(lo.toList++hi.toList)
 | .ext x _=>[x]
 | .call f args=>f::args
 | .callz f args=>f::args
 | .appm _ _ _ _ x y=>[x,y]
 | .app _ _ _ _ x y=>[x,y]
 | .len x=>[x]
 | .lens x=>[x]
 | .D3 x=>[x]
 | .OI _=>[]
 | .mkslc _ _ _ n c=>[n,c]
 | .cpy _ x y=>[x,y]
 | .clr _ x=>[x]
 | .del _ m k=>[m,k]
 | .max x y=>[x,y]
 | .min x y=>[x,y]
 | .tB x=>[x]
 | .D' x=>[x]
def bw.X0:bw->Option Nat
 | .t n=>some n
 |_=>none
def aV.JH(o:aV):List Nat:=o.op.qP.filterMap bw.X0++o.guard.toList.map (·.1)
theorem Ck{ev ev':bw->AV}{top:Nat}{x:Option bw}{d:Nat}(h:∀y∈x.toList,ev y=ev' y):bound ev top x d=bound ev' top x d:=by
 cases x with
 |none=>rfl
 |some y=>simp only[bound,h y (by simp)]
theorem aa4{ev ev':bw->AV}{l:List (Nat×Nat×bw)}{cs:List AV}(h:∀y∈l.map (·.2.2),ev y=ev' y):dp ev l cs=dp ev' l cs:=by
 induction l generalizing cs with
 |nil=>rfl
 |cons p l ih=>
  obtain⟨off,size,x⟩:=p
  simp only[aA,cw,forall_eq_or_imp]at h;simp only[dp,h.1];split
  ·exact ih h.2
  ·rfl
theorem YR{ev ev':bw->AV}{lk mem ax dst}{o:AO}(h:∀x∈o.qP,ev x=ev' x):aH ev lk mem ax dst o=aH ev' lk mem ax dst o:=by
 cases o with
 |build z parts=>simp only[aH,aa4 (ev:=ev) (ev':=ev') h]
 |Ap ag sz xs=>
  have h1:(xs.all fun x=>shaped ag sz (ev x))=xs.all fun x=>shaped ag sz (ev' x):=by rw[Bool.eq_iff_iff];simp only[dS];exact forall_congr' fun x=>forall_congr' fun hx=>by rw[h x hx]
  have h2:(xs.map fun x=>mem.ν (ev x))=xs.map fun x=>mem.ν (ev' x):=dD fun x hx=>by rw[h x hx]
  simp only[aH,h1,h2]
 |zs f a b=>
  have h1:a.map ev=a.map ev':=dD fun x hx=>h x (Ab _ hx)
  have h2:b.map ev=b.map ev':=dD fun x hx=>h x (BY _ hx);simp only[aH,h1,h2]
 |call f args=>
  have h1:args.map ev=args.map ev':=dD fun x hx=>h x (x9 _ hx)
  have h2:=h f (by simp[AO.qP]);simp only[aH,h1,h2]
 |callz f args=>
  have h1:args.map ev=args.map ev':=dD fun x hx=>h x (x9 _ hx)
  have h2:=h f (by simp[AO.qP]);simp only[aH,h1,h2]
 |EH sz x lo hi mx=>
  have h2:=h x (by simp[AO.qP])
  have h3:=fun top d=>Ck (top:=top) (d:=d) (x:=lo) (ev:=ev) (ev':=ev') fun y hy=>h y (by simp only[AO.qP,cw,dE];exact .inr (.inl (.inl hy)));have h4:=fun top d=>Ck (top:=top) (d:=d) (x:=hi) (ev:=ev) (ev':=ev') fun y hy=>h y (by simp only[AO.qP,cw,dE];exact .inr (.inl (.inr hy)));have h5:=fun top d=>Ck (top:=top) (d:=d) (x:=mx) (ev:=ev) (ev':=ev') fun y hy=>h y (by simp only[AO.qP,cw,dE];exact .inr (.inr hy));simp only[aH,h2,h3,h4,h5]
 |Js x lo hi=>
  have h2:=h x (by simp[AO.qP])
  have h3:=fun top d=>Ck (top:=top) (d:=d) (x:=lo) (ev:=ev) (ev':=ev') fun y hy=>h y (by simp only[AO.qP,cw,dE];exact .inr (.inl hy));have h4:=fun top d=>Ck (top:=top) (d:=d) (x:=hi) (ev:=ev) (ev':=ev') fun y hy=>h y (by simp only[AO.qP,cw,dE];exact .inr (.inr hy));simp only[aH,h2,h3,h4]
 |_=>
  simp only[AO.qP,cw,List.not_mem_nil,or_false,forall_eq_or_imp,forall_eq,false_imp_iff,implies_true]at h
  simp only[aH,h]
inductive tI
 |quiet
 |load
 |new (d:Nat)
 |call
 |mA (st:Bool)
 deriving DecidableEq
def aV.cls(o:aV):tI:=
 match o.op with
 | .alloc false _| .box false _ _| .tB _=>match o.dst with
  |some d=> .new d
  |none=> .mA false
 | .ld _ _ _=> .load
 | .call _ _| .callz _ _| .appm _ _ _ _ _ _| .app _ _ _ _ _ _| .alloc true _| .box true _ _| .abld _ _=> .call
 | .st _ _ _=> .mA true
 | .bad| .lookup _ _ _ _ _| .D3 _| .mapup _ _ _ _| .del _ _ _| .mkmap| .mkslc _ _ _ _ _| .cpy _ _ _| .clr _ _| .D' _=> .mA false
 |_=> .quiet
inductive u0
 |env (t:Nat)
 |loc (d:Nat)
 |mem
 deriving DecidableEq
def agree:u0->St->St->Prop
 | .env t,s,s'=>aI s.env t=aI s'.env t
 | .loc d,s,s'=>bQ s.loc d=bQ s'.loc d
 | .mem,s,s'=>s.mem=s'.mem
theorem yg(r:u0)(s:St):agree r s s:=by cases r<;>rfl
theorem Qn{r:u0}{s s':St}(h:agree r s s'):agree r s' s:=by cases r<;>exact Eq.symm h
theorem Cd{r:u0}{s s' XA:St}(h:agree r s s')(k:agree r s' XA):agree r s XA:=by cases r<;>exact Eq.trans h k
def hH(o:aV):u0->Prop
 | .env t=>o.dst=some t
 | .loc d=>o.cls= .new d\/∃b,o.cls= .mA b
 | .mem=>o.cls= .call\/∃b,o.cls= .mA b
def Py(o:aV):u0->Prop
 | .env t=>t∈o.JH
 | .loc d=>o.cls= .new d\/∃b,o.cls= .mA b
 | .mem=>o.cls= .call\/∃b,o.cls= .mA b
theorem aik{o:aV}(hc:o.cls= .quiet){ev:bw->AV}{lk mem ax v u m}(h:aH ev lk mem ax o.dst o.op=some (v,u,m)):
  u=none/\m=mem/\∀oc xG,aH ev oc xG ax o.dst o.op=some (v,none,xG):=by
 obtain⟨dst,op,gd⟩:=o;cases op with
 |alloc g z=>cases g<;>cases dst<;>simp[aV.cls]at hc
 |box g n x=>cases g<;>cases dst<;>simp[aV.cls]at hc
 |tB x=>cases dst<;>simp[aV.cls]at hc
 |bad=>simp[aV.cls]at hc
 |ld=>simp[aV.cls]at hc
 |st=>simp[aV.cls]at hc
 |call=>simp[aV.cls]at hc
 |callz=>simp[aV.cls]at hc
 |appm=>simp[aV.cls]at hc
 |app=>simp[aV.cls]at hc
 |abld=>simp[aV.cls]at hc
 |lookup=>simp[aV.cls]at hc
 |D3=>simp[aV.cls]at hc
 |mapup=>simp[aV.cls]at hc
 |del=>simp[aV.cls]at hc
 |mkmap=>simp[aV.cls]at hc
 |D'=>simp[aV.cls]at hc
 |mkslc=>simp[aV.cls]at hc
 |cpy=>simp[aV.cls]at hc
 |clr=>simp[aV.cls]at hc
 |max x y=>
  simp only[aH]at h⊢
  split at h
  ·rename_i h1 h2;split at h
   ·rename_i h3;simp only[az,bc]at h;obtain⟨rfl,rfl,rfl⟩:=h;refine⟨rfl,rfl,fun _ _=>?_⟩;rw[if_pos h3]
   ·cases h
  ·cases h
 |min x y=>
  simp only[aH]at h⊢
  split at h
  ·rename_i h1 h2;split at h
   ·rename_i h3;simp only[az,bc]at h;obtain⟨rfl,rfl,rfl⟩:=h;refine⟨rfl,rfl,fun _ _=>?_⟩;rw[if_pos h3]
   ·cases h
  ·cases h
 |Ap ag sz xs=>
  simp only[aH]at h⊢
  split at h
  ·rename_i hx;simp only[bc,az]at h;obtain⟨rfl,rfl,rfl⟩:=h;refine⟨rfl,rfl,fun _ _=>?_⟩;rw[if_pos hx];rfl
  ·cases h
 |_=>
  simp only[aH]at h⊢
  repeat' split at h
  all_goals first|(cases h;done)|skip
  all_goals(try simp only[bE,az,bc]at h)
  all_goals first
   |(obtain⟨rfl,rfl,rfl⟩:=h;refine⟨rfl,rfl,fun _ _=>?_⟩;simp_all;done)
   |(obtain⟨x,hx,rfl,rfl,rfl⟩:=h;refine⟨rfl,rfl,fun _ _=>?_⟩;simp_all;done)
   |skip
theorem ZQ{o:aV}(hc:o.cls= .call){ev:bw->AV}{lk mem ax v u m}(h:aH ev lk mem ax o.dst o.op=some (v,u,m)):
  u=none/\∀oc,aH ev oc mem ax o.dst o.op=some (v,none,m):=by
 obtain⟨dst,op,gd⟩:=o;cases op with
 |alloc g z=>
  cases g with
  |false=>cases dst<;>simp[aV.cls]at hc
  |true=>
   simp only[aH,newVar,if_true,bc,az]at h⊢
   obtain⟨rfl,rfl,rfl⟩:=h;exact⟨rfl,fun _=>by simp⟩
 |box g n x=>
  cases g with
  |false=>cases dst<;>simp[aV.cls]at hc
  |true=>
   simp only[aH,newVar,if_true]at h⊢
   split at h
   ·rename_i hn;simp only[bc,az]at h;obtain⟨rfl,rfl,rfl⟩:=h;exact⟨rfl,fun _=>by rw[if_pos hn]⟩
   ·cases h
 |tB x=>cases dst<;>simp[aV.cls]at hc
 |abld T e=>
  simp only[aH,bc,az]at h⊢
  obtain⟨rfl,rfl,rfl⟩:=h;exact⟨rfl,fun _=>by simp⟩
 |call f args=>
  simp only[aH,bE,az,Prod.exists]at h
  obtain⟨a,b,h1,rfl,rfl,rfl⟩:=h;exact⟨rfl,fun _=>by simp only[aH,h1,qh]⟩
 |callz f args=>
  simp only[aH]at h⊢
  split at h
  ·rename_i h0;simp only[bE,az,Prod.exists]at h;obtain⟨a,b,h1,rfl,rfl,rfl⟩:=h;exact⟨rfl,fun _=>by simp only[h1,qh]⟩
  ·cases h
 |appm ag sz bytes e x y=>
  simp only[aH,bE,az,Prod.exists]at h
  obtain⟨a,b,h1,rfl,rfl,rfl⟩:=h;exact⟨rfl,fun _=>by simp only[aH,h1,qh]⟩
 |app ag sz bytes e x y=>
  simp only[aH,bE,az,Prod.exists]at h
  obtain⟨a,b,h1,rfl,rfl,rfl⟩:=h;exact⟨rfl,fun _=>by simp only[aH,h1,qh]⟩
 |_=>simp[aV.cls]at hc
theorem af8{o:aV}{d:Nat}(hc:o.cls= .new d){ev:bw->AV}{lk mem ax v u m}(h:aH ev lk mem ax o.dst o.op=some (v,u,m)):
  o.dst=some d/\m=mem/\(∃x,u=some (d,x))/\∀oc xG,oc d=lk d->aH ev oc xG ax o.dst o.op=some (v,u,xG):=by
 obtain⟨dst,op,gd⟩:=o;have hv:∀(oc:Nat->Option (Nat×θ)),oc d=lk d->bL oc d=bL lk d:=fun oc h=>by simp only[bL,h]
 cases op with
 |alloc g z=>
  cases g<;>cases dst<;>simp[aV.cls]at hc
  subst hc;simp only[aH,newVar,jI,if_false,bc,az]at h⊢;obtain⟨rfl,rfl,rfl⟩:=h;refine⟨trivial,rfl,⟨_,rfl⟩,fun oc xG hl=>?_⟩;rw[hv oc hl];simp
 |box g n x=>
  cases g<;>cases dst<;>simp[aV.cls]at hc
  subst hc;simp only[aH,newVar,jI,if_false]at h⊢;split at h
  ·rename_i hn;simp only[bc,az]at h;obtain⟨rfl,rfl,rfl⟩:=h;refine⟨trivial,rfl,⟨_,rfl⟩,fun oc xG hl=>?_⟩;rw[hv oc hl,if_pos hn]
  ·cases h
 |tB x=>
  cases dst<;>simp[aV.cls]at hc
  subst hc;simp only[aH]at h⊢;split at h
  ·rename_i s d' hx hd;cases hd;simp only[bc,az]at h;obtain⟨rfl,rfl,rfl⟩:=h;refine⟨trivial,rfl,⟨_,rfl⟩,fun oc xG hl=>?_⟩;rw[hv oc hl]
  ·cases h
 |_=>simp[aV.cls]at hc
theorem afI{o:aV}(hc:o.cls= .load):∃ag n a,o.op= .ld ag n a:=by
 obtain⟨dst,op,gd⟩:=o;cases op with
 |alloc g z=>cases g<;>cases dst<;>simp[aV.cls]at hc
 |box g n x=>cases g<;>cases dst<;>simp[aV.cls]at hc
 |tB x=>cases dst<;>simp[aV.cls]at hc
 |ld ag n a=>exact⟨_,_,_,rfl⟩
 |_=>simp[aV.cls]at hc
def Qb(gl:Nat->AV)(o:aV)(s S:St):Prop:=
 ∀ag n a,o.op= .ld ag n a->eR S.env o.guard≠some false->rd (bQ s.loc) s.mem (dr gl S.env a) n=rd (bQ S.loc) S.mem (dr gl S.env a) n
theorem akb{env CF:List AV}{gd:Option (Nat×Bool)}(h:∀t∈gd.toList.map (·.1),aI env t=aI CF t):eR env gd=eR CF gd:=by
 cases gd with
 |none=>rfl
 |some p=>simp only[eR];rw[h p.1 (by simp)]
theorem aaS{gl:Nat->AV}{env CF:List AV}{l:List bw}(h:∀t∈l.filterMap bw.X0,aI env t=aI CF t):∀x∈l,dr gl env x=dr gl CF x:=by
 intro x hx;cases x with
 |t n=>exact h n (List.mem_filterMap.2 ⟨_,hx,rfl⟩)
 |c v=>rfl
 |g n=>rfl
theorem Kh{gl:Nat->AV}{ax:cu}{o:aV}{s S S1:St}(Ω:dG gl ax o S=some S1)(n9:∀r,Py o r->agree r s S)(Dr:Qb gl o s S):
  ∃s1,dG gl ax o s=some s1/\(∀r,hH o r->agree r s1 S1)/\∀r,¬hH o r->agree r s1 s/\agree r S1 S:=by
 have hu:∀t∈o.JH,aI s.env t=aI S.env t:=fun t ht=>n9 (.env t) ht;have hw:eR s.env o.guard=eR S.env o.guard:=akb fun t ht=>hu t (BY _ ht);have ak:∀x∈o.op.qP,dr gl s.env x=dr gl S.env x:=aaS fun t ht=>hu t (Ab _ ht);unfold dG at Ω⊢;rw[hw];split at Ω
 ·cases Ω
 ·rename_i xx;split at Ω
  ·rename_i v u m he;cases Ω;have fin:∀(u':kG) (m':Mem),(∀r,hH o r->r= .mem->m'=m)->(∀d,hH o (.loc d)->bQ (eH s.loc u') d=bQ (eH S.loc u) d)→
     (¬hH o .mem->m'=s.mem/\m=S.mem)->(∀d,¬hH o (.loc d)->bQ (eH s.loc u') d=bQ s.loc d/\bQ (eH S.loc u) d=bQ S.loc d)→
     (∀r,hH o r->agree r ({env:=ff s.env o.dst v,loc:=eH s.loc u',mem:=m'}:St) {env:=ff S.env o.dst v,loc:=eH S.loc u,mem:=m})∧
     ∀r,¬hH o r->agree r ({env:=ff s.env o.dst v,loc:=eH s.loc u',mem:=m'}:St) s/\agree r ({env:=ff S.env o.dst v,loc:=eH S.loc u,mem:=m}:St) S:=by
    intro u' m' h1 h2 h3 h4;refine⟨fun r hr=>?_,fun r hr=>?_⟩
    ·cases r with
     |env t=>simp only[agree];rw[vd,vd,if_pos (show o.dst=some t from hr),if_pos (show o.dst=some t from hr)]
     |loc d=>exact h2 d hr
     |mem=>exact h1 _ hr rfl
    ·cases r with
     |env t=>
      have hr:¬o.dst=some t:=hr
      simp only[agree];rw[vd,vd,if_neg hr,if_neg hr];exact⟨rfl,rfl⟩
     |loc d=>exact h4 d hr
     |mem=>exact h3 hr
   rw[YR ak];cases hc:o.cls with
   |quiet=>
    obtain⟨rfl,rfl,k⟩:=aik hc he
    refine⟨_,by rw[k],fin none s.mem (fun r hr he=>?_) (fun d hr=>?_) (fun _=>⟨rfl,rfl⟩) (fun _ _=>⟨rfl,rfl⟩)⟩
    ·subst he;simp[hH,hc]at hr
    ·simp[hH,hc]at hr
   |load=>
    obtain⟨ag,n,a,Ξ⟩:=afI hc
    have hl:=Dr ag n a Ξ (by rw[xx];simp);simp only[Ξ,aH]at he⊢;rw[hl];split at he
    ·rename_i l sS;simp only[bE,az]at he;obtain⟨x,hx,rfl,rfl,rfl⟩:=he;refine⟨_,by simp only[hx,qh],fin none s.mem (fun r hr he=>?_) (fun d hr=>?_) (fun _=>⟨rfl,rfl⟩) (fun _ _=>⟨rfl,rfl⟩)⟩
     ·subst he;simp[hH,hc]at hr
     ·simp[hH,hc]at hr
    ·cases he
   |new d=>
    obtain⟨hd,rfl,⟨x,rfl⟩,k⟩:=af8 hc he
    have hl:bQ s.loc d=bQ S.loc d:=n9 (.loc d) (.inl hc);refine⟨_,by rw[k _ s.mem hl],fin (some (d,x)) s.mem (fun r hr he=>?_) (fun d' hr=>?_) (fun _=>⟨rfl,rfl⟩) (fun d' hr=>?_)⟩
    ·subst he;simp[hH,hc]at hr
    ·simp only[hH,hc,tI.new.injEq,reduceCtorEq,exists_const,or_false]at hr;subst hr;obtain⟨v',b⟩:=x;simp only[eH,gX,if_true]
    ·have τ:d≠d':=fun h=>hr (.inl (by rw[hc,h]));obtain⟨v',b⟩:=x;simp only[eH,gX,if_neg τ];exact⟨trivial,trivial⟩
   |call=>
    obtain⟨rfl,k⟩:=ZQ hc he
    have hm:s.mem=S.mem:=n9 .mem (.inl hc);refine⟨_,by rw[hm,k],fin none m (fun _ _ _=>rfl) (fun d hr=>?_) (fun hr=>absurd (.inl hc) hr) (fun _ _=>⟨rfl,rfl⟩)⟩;simp[hH,hc]at hr
   |mA b0=>
    have hm:s.mem=S.mem:=n9 .mem ((.inr ⟨_,hc⟩))
    have hl:bQ s.loc=bQ S.loc:=funext fun d=>n9 (.loc d) ((.inr ⟨_,hc⟩));refine⟨_,by rw[hm,hl,he],fin u m (fun _ _ _=>rfl) (fun d hr=>?_) (fun hr=>absurd (.inr ⟨_,hc⟩) hr) (fun d hr=>absurd (.inr ⟨_,hc⟩) hr)⟩;rw[OK,OK,hl]
  ·cases Ω
 ·cases Ω;refine⟨_,rfl,fun r hr=>?_,fun r hr=>?_⟩
  ·cases r with
   |env t=>simp only[agree];rw[vd,vd,if_pos (show o.dst=some t from hr),if_pos (show o.dst=some t from hr)]
   |loc d=>exact n9 (.loc d) hr
   |mem=>exact n9 .mem hr
  ·cases r with
   |env t=>
    have hr:¬o.dst=some t:=hr
    simp only[agree];rw[vd,vd,if_neg hr,if_neg hr];exact⟨rfl,rfl⟩
   |loc d=>exact⟨rfl,rfl⟩
   |mem=>exact⟨rfl,rfl⟩
def ins(x:Nat)(l:List Nat):List Nat:=if l.contains x then l else x::l
theorem Wl{x y:Nat}{l:List Nat}(h:y∈ins x l):y=x\/y∈l:=by
 unfold ins at h;split at h
 ·exact .inr h
 ·simpa using h
def Vt(m l:List Nat):List Nat:=m.foldr ins l
theorem afY{y:Nat}{m l:List Nat}(h:y∈Vt m l):y∈m\/y∈l:=by
 induction m with
 |nil=>exact .inr h
 |cons a m ih=>
  rcases Wl h with rfl|h
  ·exact .inl (by simp)
  ·rcases ih h with h|h
   ·exact .inl (by simp[h])
   ·exact .inr h
def tn(acc:List (List Nat)):List Edge->List Nat
 |[]=>[]
 |e::l=>if Region.binds .any e then ins e.on (Vt (acc.getD e.on []) (tn acc l))else tn acc l
theorem afZ{acc:List (List Nat)}{es:List Edge}{j:Nat}(h:j∈tn acc es):∃e∈es,Region.binds .any e=true/\(j=e.on\/j∈acc.getD e.on []):=by
 induction es with
 |nil=>cases h
 |cons e l ih=>
  simp only[tn]at h
  have tail:j∈tn acc l->∃e'∈e::l,Region.binds .any e'=true/\(j=e'.on\/j∈acc.getD e'.on []):=fun h=>by obtain⟨e',h1,h2⟩:=ih h;exact⟨e',x9 _ h1,h2⟩
  split at h
  ·rename_i hb;rcases Wl h with h|h
   ·exact⟨e,by simp,hb,.inl h⟩
   ·rcases afY h with h|h
    ·exact⟨e,by simp,hb,.inr h⟩
    ·exact tail h
  ·exact tail h
def qS:List Oper->List (List Nat)->List (List Nat)
 |[],acc=>acc
 |o::l,acc=>qS l (acc++[tn acc o.after.toList])
def ql:List Oper->Nat->Bool
 |[],_=>true
 |o::l,i=>(o.after.toList.all fun e=>!Region.binds .any e||decide (e.on<i))&&ql l (i+1)
theorem W4(l:List Oper)(acc:List (List Nat)):∃rest,qS l acc=acc++rest/\rest.length=l.length:=by
 induction l generalizing acc with
 |nil=>exact⟨[],by simp[qS],rfl⟩
 |cons o l ih=>
  obtain⟨rest,h1,h2⟩:=ih (acc++[tn acc o.after.toList])
  exact⟨tn acc o.after.toList::rest,by simp[qS,h1],by simp[h2]⟩
theorem ahX(l:List Oper)(acc:List (List Nat))(i:Nat)(o:Oper)(h:l[i]?=some o)(he:ql l acc.length=true)(j:Nat)
  (hj:j∈(qS l acc).getD (acc.length+i) []):
  ∃e∈o.after,Region.binds .any e=true/\e.on<acc.length+i/\(j=e.on\/j∈(qS l acc).getD e.on []):=by
 induction l generalizing acc i with
 |nil=>simp at h
 |cons o' l ih=>
  simp only[ql,dW,dS,xU,zZ,decide_eq_true_eq]at he
  cases i with
  |zero=>
   simp only[BW,bc]at h
   subst h;obtain⟨rest,h1,h2⟩:=W4 l (acc++[tn acc o'.after.toList]);have hg:(qS (o'::l) acc).getD (acc.length+0) []=tn acc o'.after.toList:=by simp only[qS,h1];simp[nC]
   rw[hg]at hj;obtain⟨e,h3,h4,h5⟩:=afZ hj;have χ:=(he.1 e h3).resolve_left (by simp[h4]);refine⟨e,by simpa using h3,h4,by simpa using χ,h5.imp id fun h5=>?_⟩;have:(qS (o'::l) acc).getD e.on []=acc.getD e.on []:=by simp only[qS,h1];simp[nC,List.getElem?_append,χ]
   rw[this];exact h5
  |succ i=>
   simp only[JZ]at h
   have:=ih (acc++[tn acc o'.after.toList]) i h (by simpa using he.2) (by simpa[qS,qc,Ae 1 i]using hj);simpa[qS,qc,Ae 1 i]using this
def iW(ops:Array Oper):List (List Nat):=qS ops.toList []
theorem Pj{ops:Array Oper}(he:ql ops.toList 0=true){i j:Nat}{o:Oper}(h:ops[i]?=some o)(hj:j∈(iW ops).getD i []):
  ∃e∈o.after,Region.binds .any e=true/\e.on<i/\(j=e.on\/j∈(iW ops).getD e.on []):=by
 have:=ahX ops.toList [] i o (by simpa using h) he j (by simpa[iW]using hj);simpa[iW]using this
theorem aaL{l:List Oper}{k:Nat}(he:ql l k=true){i:Nat}{o:Oper}(h:l[i]?=some o):∀e∈o.after,Region.binds .any e=true->e.on<k+i:=by
 induction l generalizing k i with
 |nil=>simp at h
 |cons o' l ih=>
  simp only[ql,dW,dS,xU,zZ,decide_eq_true_eq]at he
  cases i with
  |zero=>
   simp only[BW,bc]at h
   subst h;intro e hm hb;exact(he.1 e (by simpa using hm)).resolve_left (by simp[hb])
  |succ i=>
   simp only[JZ]at h
   intro e hm hb;have:=ih he.2 h e hm hb;omega
def Cr:tI->tI->Bool
 | .quiet,_=>false
 |_,.quiet=>false
 | .mA true,.load=>false
 | .load,.mA true=>false
 | .mA _,_=>true
 |_,.mA _=>true
 | .call,.call=>true
 | .new d,.new d'=>d==d'
 |_,_=>false
def M_(o o':aV):Bool:=match o.dst with
 |some t=>o'.dst==some t||o'.JH.contains t
 |none=>false
def Av(o o':aV):Bool:=Cr o.cls o'.cls||M_ o o'||M_ o' o
theorem KY{o o':aV}(h:Av o o'=false):∀r,hH o r->¬hH o' r/\¬Py o' r:=by
 intro r hr;simp only[Av,EX]at h;obtain⟨⟨h1,h2⟩,h3⟩:=h;cases r with
 |env t=>
  have hr:o.dst=some t:=hr
  simp only[M_,hr,EX]at h2;refine⟨fun hw=>?_,fun hw=>?_⟩
  ·have hw:o'.dst=some t:=hw;simp[hw]at h2
  ·have hw:t∈o'.JH:=hw;simp[hw]at h2
 |loc d=>
  have key:¬(o'.cls= .new d\/∃b,o'.cls= .mA b):=by rintro(hw|⟨b,hw⟩)<;>rcases hr with hr|⟨b',hr⟩<;>simp[hr,hw,Cr]at h1
  exact⟨key,key⟩
 |mem=>
  have key:¬(o'.cls= .call\/∃b,o'.cls= .mA b):=by rintro(hw|⟨b,hw⟩)<;>rcases hr with hr|⟨b',hr⟩<;>simp[hr,hw,Cr]at h1
  exact⟨key,key⟩
def cmp(pre:List (List Nat))(i j:Nat):Bool:=(pre.getD j []).contains i||(pre.getD i []).contains j
def Cx(l:List aV)(pre:List (List Nat)):Bool:=
 (qZ l.length).all fun j=>(qZ l.length).all fun i=>decide (i=j)||cmp pre i j||(match l[i]?,l[j]? with
  |some oi,some oj=>!Av oi oj
  |_,_=>true)
def Og(p:tI->Bool)(l:List aV)(i:Nat):Bool:=match l[i]? with
 |some o=>p o.cls
 |none=>false
def sa(l:List aV)(pre:List (List Nat))(p q:tI->Bool):List (Nat×Nat):=
 ((qZ l.length).filter (Og p l)).flatMap fun i=>(((qZ l.length).filter (Og q l)).filter fun j=>!(cmp pre i j)).map fun j=>(i,j)
def qJ:tI->Bool
 | .load=>true
 |_=>false
def zl:tI->Bool
 | .call=>true
 | .mA true=>true
 |_=>false
def Bl:tI->Bool
 | .new _=>true
 |_=>false
theorem OR{l:List aV}{pre:List (List Nat)}{p q:tI->Bool}{i j:Nat}{o o':aV}(h1:l[i]?=some o)(h2:l[j]?=some o')(hp:p o.cls=true)(hq:q o'.cls=true)
  (hc:cmp pre i j=false):(i,j)∈sa l pre p q:=by
 have hi:i<l.length:=(fu.1 h1).1;have hj:j<l.length:=(fu.1 h2).1;simp only[sa,List.mem_flatMap,eT,Ac,Ad,az,Og];exact⟨i,⟨hi,by simp[h1,hp]⟩,j,⟨⟨hj,by simp[h2,hq]⟩,by simp[hc]⟩,rfl,rfl⟩
mutual
theorem AV.eq_of_beq:∀(a b:AV),AV.beq a b=true->a=b
 | .undef,b,h=>by cases b<;>simp[AV.beq]at h;rfl
 | .cU,b,h=>by cases b<;>simp[AV.beq]at h;rfl
 | .int k n,b,h=>by cases b<;>simp[AV.beq]at h;rw[h.1,h.2]
 | .bool x,b,h=>by cases b<;>simp[AV.beq]at h;rw[h]
 | .str s,b,h=>by cases b<;>simp[AV.beq]at h;rw[h]
 | .iU,b,h=>by cases b<;>simp[AV.beq]at h;rfl
 | .aj d v o,b,h=>by cases b<;>simp[AV.beq]at h;rw[h.1.1,h.1.2,h.2]
 | .μ d o,b,h=>by cases b<;>simp[AV.beq]at h;rw[h.1,h.2]
 | .ref l,b,h=>by cases b<;>simp[AV.beq]at h;rw[AV.wK _ _ h]
 | .sl kd i o n c,b,h=>by cases b<;>simp[AV.beq]at h;rw[h.1.1.1.1,h.1.1.1.2,h.1.1.2,h.1.2,h.2]
 | .list c l,b,h=>by cases b<;>simp[AV.beq]at h;rw[h.1,AV.wK _ _ h.2]
 | .agg l,b,h=>by cases b<;>simp[AV.beq]at h;rw[AV.wK _ _ h]
 | .aU l,b,h=>by cases b<;>simp[AV.beq]at h;rw[AV.wK _ _ h]
 | .fn f x y,b,h=>by cases b<;>simp[AV.beq]at h;rw[h.1.1,AV.wK _ _ h.1.2,AV.wK _ _ h.2]
 | .fV,b,h=>by cases b<;>simp[AV.beq]at h;rfl
 | .iface t v,b,h=>by cases b<;>simp[AV.beq]at h;rw[h.1,AV.eq_of_beq _ _ h.2]
 | .gx,b,h=>by cases b<;>simp[AV.beq]at h;rfl
 | .map i,b,h=>by cases b<;>simp[AV.beq]at h;rw[h]
 | .gY,b,h=>by cases b<;>simp[AV.beq]at h;rfl
theorem AV.wK:∀(a b:List AV),AV.gS a b=true->a=b
 |[],b,h=>by cases b<;>simp[AV.gS]at h;rfl
 |x::l,b,h=>by
  cases b with
  |nil=>simp[AV.gS]at h
  |cons y m=>simp[AV.gS]at h;rw[AV.eq_of_beq _ _ h.1,AV.wK _ _ h.2]
end
theorem FQ{a b:Option (List AV)}(h:eZ a b=true):a=b:=by cases a<;>cases b<;>simp[eZ]at h;rw[AV.wK _ _ h]
theorem RU{P:Program}{bf:Nat->Bool}{N:Nat}{ops:Array Oper}{l:List Oper}{l':List aV}(h:tU P bf N ops l=some l'):l'.length=l.length:=by
 induction l generalizing l' with
 |nil=>cases h;rfl
 |cons o l ih=>
  simp only[tU]at h
  split at h
  ·rename_i h1 h2;cases h;simp[ih h2]
  ·cases h
theorem RT{P:Program}{bf:Nat->Bool}{N:Nat}{ops:Array Oper}{l:List Oper}{l':List aV}(h:tU P bf N ops l=some l'){i:Nat}{o:Oper}(hi:l[i]?=some o):
  ∃o',l'[i]?=some o'/\Fw P bf N ops o=some o':=by
 induction l generalizing l' i with
 |nil=>simp at hi
 |cons x l ih=>
  simp only[tU]at h
  split at h
  ·rename_i h1 h2;cases h;cases i with
   |zero=>simp only[BW,bc]at hi;subst hi;exact⟨_,rfl,h1⟩
   |succ i=>simp only[JZ]at hi⊢;exact ih h2 hi
  ·cases h
structure Trace (gl:Nat->AV) (ax:cu) (l:List aV) (T:Nat->St):Prop where
 step:∀i o,l[i]?=some o->dG gl ax o (T i)=some (T (i+1))
theorem Qy{gl:Nat->AV}{ax:cu}{l:List aV}{s:St}{tr:List St}(h:ef gl ax l s=some tr):
  tr.length=l.length+1/\tr[0]?=some s/\∀i o,l[i]?=some o->∃a b,tr[i]?=some a/\tr[i+1]?=some b/\dG gl ax o a=some b:=by
 induction l generalizing s tr with
 |nil=>cases h;exact⟨rfl,rfl,fun i o h=>by simp at h⟩
 |cons x l ih=>
  simp only[ef]at h
  split at h
  ·rename_i s' he;simp only[bE]at h;obtain⟨t,ht,rfl⟩:=h;obtain⟨h1,h2,h3⟩:=ih ht;refine⟨by simp[h1],rfl,fun i o ho=>?_⟩;cases i with
   |zero=>
    simp only[BW,bc]at ho
    subst ho;exact⟨s,s',rfl,by simpa using h2,he⟩
   |succ i=>
    simp only[JZ]at ho⊢
    exact h3 i o ho
  ·cases h
section
variable{gl:Nat->AV}{ax:cu}{l:List aV}{T:Nat->St}
theorem Trace.same(hT:Trace gl ax l T){r:u0}{i:Nat}:∀{k:Nat},i<=k->k<=l.length->(∀j o,i<=j->j<k->l[j]?=some o->¬hH o r)->agree r (T k) (T i):=by
 intro k;induction k with
 |zero=>intro h _ _;obtain rfl:i=0:=(by omega);exact yg _ _
 |succ k ih=>
  intro h hk hn
  rcases cX k i with χ|du
  ·obtain rfl:i=k+1:=by omega
   exact yg _ _
  ·have h1:=ih du (by omega) fun j o hj dJ=>hn j o hj (by omega);have χ:k<l.length:=by omega
   have Ω:=hT.step k l[k] (dN χ);obtain⟨s1,h2,_,h4⟩:=Kh (s:=T k) Ω (fun r _=>yg r _) (fun _ _ _ _ _=>rfl);exact Cd (h4 r (hn k l[k] du (by omega) (dN χ))).2 h1
theorem Trace.last(hT:Trace gl ax l T){r:u0}{i:Nat}:∀{k:Nat},i<=k->k<=l.length→
  agree r (T k) (T i)\/∃j o,i<=j/\j<k/\l[j]?=some o/\hH o r/\agree r (T k) (T (j+1)):=by
 intro k;induction k with
 |zero=>intro h _;obtain rfl:i=0:=(by omega);exact .inl (yg _ _)
 |succ k ih=>
  intro h hk
  rcases cX k i with χ|du
  ·obtain rfl:i=k+1:=by omega
   exact .inl (yg _ _)
  ·have χ:k<l.length:=by omega
   have ho:l[k]?=some l[k]:=dN χ;by_cases hw:hH l[k] r
   ·exact .inr ⟨k,l[k],du,by omega,ho,hw,yg _ _⟩
   ·have Ω:=hT.step k l[k] ho;obtain⟨s1,h2,_,h4⟩:=Kh (s:=T k) Ω (fun r _=>yg r _) (fun _ _ _ _ _=>rfl);have h5:=(h4 r hw).2;rcases ih du (by omega)with h1|⟨j,o,k1,k2,k3,k4,k5⟩
    ·exact .inl (Cd h5 h1)
    ·exact .inr ⟨j,o,k1,by omega,k3,k4,Cd h5 k5⟩
def Inv(l:List aV)(T:Nat->St)(listed:Nat->Prop)(s:St):Prop:=
 ∀r k,k<=l.length->(∀j o,j<k->l[j]?=some o->hH o r->listed j)->(∀j o,k<=j->l[j]?=some o->hH o r->¬listed j)->agree r s (T k)
structure J8 (gl:Nat->AV) (l:List aV) (T:Nat->St) (iZ:Nat->Nat->Prop):Prop where
 back:∀i j,iZ i j->i<j
 free:∀i j oi oj,l[i]?=some oi->l[j]?=some oj->i≠j->¬iZ i j->¬iZ j i->Av oi oj=false
 cf:∀i j oi oj ag n a,l[i]?=some oi->l[j]?=some oj->oi.op= .ld ag n a->(oj.cls= .call\/oj.cls= .mA true)->¬iZ i j->¬iZ j i->eR (T i).env oi.guard≠some false→
  ∀id off,dr gl (T i).env a= .μ id off->rd (fun _=>none) (T j).mem (.μ id off) n=rd (fun _=>none) (T i).mem (.μ id off) n∧
   rd (fun _=>none) (T (j+1)).mem (.μ id off) n=rd (fun _=>none) (T i).mem (.μ id off) n
 sf:∀i j oi oj ag n a,l[i]?=some oi->l[j]?=some oj->oi.op= .ld ag n a->oj.cls= .mA true->¬iZ i j->¬iZ j i->eR (T i).env oi.guard≠some false→
  ∀d v off,dr gl (T i).env a= .aj d v off->rd (bQ (T j).loc) (T j).mem (.aj d v off) n=rd (bQ (T i).loc) (T i).mem (.aj d v off) n∧
   rd (bQ (T (j+1)).loc) (T (j+1)).mem (.aj d v off) n=rd (bQ (T i).loc) (T i).mem (.aj d v off) n
 af:∀i j oi oj ag n a d,l[i]?=some oi->l[j]?=some oj->oj.op= .ld ag n a->oi.cls= .new d->¬iZ i j->¬iZ j i→
  ∀v off,dr gl (T j).env a= .aj d v off->False
theorem Cs{o:aV}{ag n a}(h:o.op= .ld ag n a):o.cls= .load:=by obtain⟨dst,op,gd⟩:=o;cases h;rfl
theorem af7{o:aV}{d:Nat}(h:o.cls= .new d):o.dst=some d:=by
 obtain⟨dst,op,gd⟩:=o;cases op with
 |alloc g z=>cases g<;>cases dst<;>simp_all [aV.cls]
 |box g n x=>cases g<;>cases dst<;>simp_all [aV.cls]
 |tB x=>cases dst<;>simp_all [aV.cls]
 |_=>simp[aV.cls]at h
theorem agX(hT:Trace gl ax l T){iZ:Nat->Nat->Prop}(hO:J8 gl l T iZ){listed:Nat->Prop}{s:St}(hI:Inv l T listed s)
  (eh:∀i j,iZ i j->listed j->listed i) {i:Nat} {o:aV} (ho:l[i]?=some o) (zh:¬listed i) (H9:∀j,iZ j i->listed j):
  ∃s1,dG gl ax o s=some s1/\Inv l T (fun j=>listed j\/j=i) s1:=by
 have hi:i<l.length:=(fu.1 ho).1;have side:∀r,(∀j oj,l[j]?=some oj->hH oj r->j≠i->iZ i j\/iZ j i)->agree r s (T i):=by
  intro r hr;refine hI r i (Af hi) (fun j oj hj iR hw=>?_) (fun j oj hj iR hw hl=>?_)
  ·rcases hr j oj iR hw (by omega)with h|h
   ·have:=hO.back _ _ h;omega
   ·exact H9 j h
  ·rcases al5 hj with rfl|χ
   ·exact zh hl
   ·rcases hr j oj iR hw (by omega)with h|h
    ·exact zh (eh _ _ h hl)
    ·have:=hO.back _ _ h;omega
 have n9:∀r,Py o r->agree r s (T i):=by
  intro r hr;refine side r fun j oj iR hw τ=>?_;by_cases h1:iZ i j
  ·exact .inl h1
  ·by_cases h2:iZ j i
   ·exact .inr h2
   ·exact absurd hr (KY (hO.free j i oj o iR ho τ h2 h1) r hw).2
 have look:∀{β:Type} (f:St->β) (r:u0),(∀s s',agree r s s'->f s=f s')→
   (∀j oj,l[j]?=some oj->hH oj r->j≠i->¬iZ i j->¬iZ j i->f (T j)=f (T i)/\f (T (j+1))=f (T i))->f s=f (T i):=by
  intro β f r hf Us;have⟨k,hk,pO,gE⟩:∃k,k<=l.length/\(∀j oj,j<k->l[j]?=some oj->hH oj r->listed j)/\(k=l.length\/∃ok,l[k]?=some ok/\hH ok r/\¬listed k):=by
   have:∀k,k<=l.length->(∀j oj,j<k->l[j]?=some oj->hH oj r->listed j)\/∃m,m<k/\(∀j oj,j<m->l[j]?=some oj->hH oj r->listed j)/\∃ok,l[m]?=some ok/\hH ok r/\¬listed m:=by
    intro k;induction k with
    |zero=>intro _;exact .inl fun j oj hj=>by omega
    |succ k ih=>
     intro hk
     rcases ih (by omega)with h|⟨m,h1,h2⟩
     ·have ai:l[k]?=some l[k]:=dN (by omega);by_cases hx:hH l[k] r/\¬listed k
      ·exact .inr ⟨k,by omega,h,_,ai,hx⟩
      ·refine .inl fun j oj hj iR gg=>?_;rcases cX j k with χ|du
       ·exact h j oj χ iR gg
       ·obtain rfl:j=k:=by omega
        rw[ai]at iR;cases iR;exact Classical.byContradiction fun hn=>hx ⟨gg,hn⟩
     ·exact .inr ⟨m,by omega,h2⟩
   rcases this l.length (bA _)with h|⟨m,h1,h2,h3⟩
   ·exact⟨l.length,bA _,h,.inl rfl⟩
   ·exact⟨m,Af h1,h2,.inr h3⟩
  have Γ:agree r s (T k):=by
   refine hI r k hk pO fun j oj hj iR gg hl=>?_;rcases gE with rfl|⟨ok,h1,h2,h3⟩
   ·have:=(fu.1 iR).1;omega
   ·rcases al5 hj with rfl|χ
    ·exact h3 hl
    ·by_cases g1:iZ k j
     ·exact h3 (eh _ _ g1 hl)
     ·by_cases g2:iZ j k
      ·have:=hO.back _ _ g2;omega
      ·exact(KY (hO.free k j ok oj h1 iR (by omega) g1 g2) r h2).1 gg
  rw[hf _ _ Γ];have ordered:i<=k->f (T k)=f (T i):=by
   intro ug;rcases hT.last (r:=r) ug hk with h|⟨j,oj,g1,g2,g3,g4,g5⟩
   ·exact hf _ _ h
   ·rw[hf _ _ g5];have hl:=pO j oj g2 g3 g4;have τ:j≠i:=fun h=>zh (h▸hl);have n1:¬iZ i j:=fun h=>zh (eh _ _ h hl);have n2:¬iZ j i:=fun h=>by have:=hO.back _ _ h;omega
    exact(Us j oj g3 g4 τ n1 n2).2
  rcases gE with rfl|⟨ok,h1,h2,h3⟩
  ·exact ordered (Af hi)
  ·by_cases g1:iZ i k
   ·exact ordered (Af (hO.back _ _ g1))
   ·by_cases g2:iZ k i
    ·exact absurd (H9 k g2) h3
    ·by_cases hki:k=i
     ·exact ordered (by omega)
     ·exact(Us k ok h1 h2 hki g1 g2).1
 have Dr:Qb gl o s (T i):=by
  intro ag n a Ξ hw;cases hp:dr gl (T i).env a with
  |aj d v off=>
   refine look (fun s=>rd (bQ s.loc) s.mem (.aj d v off) n) (.loc d) (fun s s' h=>?_) fun j oj iR gg τ n1 n2=>?_
   ·simp only[rd];rw[show bQ s.loc d=bQ s'.loc d from h]
   ·rcases gg with gg|⟨b,gg⟩
    ·exact(hO.af j i oj o ag n a d iR ho Ξ gg n2 n1 v off hp).elim
    ·cases b with
     |false=>
      have:=hO.free j i oj o iR ho τ n2 n1
      simp[Av,gg,Cs Ξ,Cr]at this
     |true=>exact hO.sf i j o oj ag n a ho iR Ξ gg n1 n2 hw d v off hp
  |μ id off=>
   refine look (fun s=>rd (bQ s.loc) s.mem (.μ id off) n) .mem (fun s s' h=>?_) fun j oj iR gg τ n1 n2=>?_
   ·show rd (fun _=>none) s.mem (.μ id off) n=rd (fun _=>none) s'.mem (.μ id off) n;rw[show s.mem=s'.mem from h]
   ·refine hO.cf i j o oj ag n a ho iR Ξ ?_ n1 n2 hw id off hp;rcases gg with gg|⟨b,gg⟩
    ·exact .inl gg
    ·cases b with
     |false=>
      have:=hO.free j i oj o iR ho τ n2 n1
      simp[Av,gg,Cs Ξ,Cr]at this
     |true=>exact .inr gg
  |_=>rfl
 obtain⟨s1,h1,h2,h3⟩:=Kh (hT.step i o ho) n9 Dr;refine⟨s1,h1,fun r k hk χ du=>?_⟩;by_cases hw:hH o r
 ·have ug:i<k:=by
   rcases cX i k with h|h
   ·exact h
   ·exact absurd (.inr rfl) (du i o h ho hw)
  refine Cd (h2 r hw) (Qn (hT.same (i:=i+1) ug hk fun j oj hj HS iR rS=>?_));have hl:listed j:=(χ j oj HS iR rS).resolve_right (by omega);by_cases g1:iZ i j
  ·exact zh (eh _ _ g1 hl)
  ·by_cases g2:iZ j i
   ·have:=hO.back _ _ g2;omega
   ·exact(KY (hO.free i j o oj ho iR (by omega) g1 g2) r hw).1 rS
 ·refine Cd (h3 r hw).1 (hI r k hk (fun j oj hj iR rS=>?_) (fun j oj hj iR rS hl=>du j oj hj iR rS (.inl hl)));refine(χ j oj hj iR rS).resolve_right ?_
  rintro rfl
  rw[ho]at iR;cases iR;exact hw rS
end
section
variable{F:Fence}{n:Nat}{P:Program}{bf:Nat->Bool}{N:Nat}{gl:Nat->AV}{base:Nat}{LC:eX}{cR:Nat}{ax:cu}
variable{ops:Array Oper}{Q:Exit->Act->World->Prop}
theorem SR.congr{g:Gh}{lb:LB}{own:OW}{s s':St}{a:Act}{w:World}(h:SR gl base N LC cR g lb own s a w)(hr:∀r,agree r s s'):SR gl base N LC cR g lb own s' a w:= {
 env t:=by have:=hr (.env t);simp only[agree]at this;rw[<-this];exact h.env t
 gl:=h.gl
 size:=h.size
 defers:=h.defers
 mem:=by have:=hr .mem;simp only[agree]at this;rw[<-this];exact h.mem
 loc:=by have:bQ s.loc=bQ s'.loc:=funext fun d=>hr (.loc d);rw[<-this];exact h.loc
 own:=h.own}
theorem SR.drawn{g:Gh}{lb:LB}{own:OW}{s:St}{a:Act}{w:World}(h:SR gl base N LC cR g lb own s a w)(d:Nat):
  SR gl base N LC cR g lb own s a {w with drawn:=d}/\eu g own w g own {w with drawn:=d}:=by
 refine⟨⟨h.env,h.gl,h.size,h.defers.bm (g:=g) (g':=g) ⟨g.eP,bA _,rfl,rfl,rfl,fun _ _ _=>rfl,fun _ _ h=>h,fun _ _ _ _=>rfl⟩,?_,?_,?_⟩,g.eP,bA _,rfl,rfl,rfl,fun _ _ _=>rfl,fun _ _ h=>h,fun _ _ _ _=>rfl⟩
 ·exact⟨h.mem.ju,h.mem.nu,fun id blk hb=>(h.mem.blk id blk hb).bm g.eP (fun _ _=>⟨rfl,rfl,fun _=>rfl⟩) (fun _ h=>h) (fun h=>h),fun b o x hx=>(qj (w:=w) rfl).trans (h.mem.im b o x hx)⟩
 ·exact⟨fun d v l hd=>by
    obtain⟨b,h1,h2⟩:=h.loc.cells d v l hd
    exact⟨b,h1,h2.bm g.eP (fun _ _ _ h=>h) rfl rfl fun _=>rfl⟩,h.loc.iter,h.loc.wm⟩
 ·exact⟨h.own.ge,h.own.base⟩
theorem agV(hF:∀f,F.fn f)(hd:F.depth=none)(iQ:nA F P base LC gl ax){l:List aV}(hc:tU P bf N ops ops.toList=some l):
  ∀(m k:Nat) (g:Gh) (lb:LB) (own:OW) (s s':St) (a:Act) (w:World),k+m=ops.size->SR gl base N LC cR g lb own s a w->dT gl ax (l.drop k) s=some s'→
   (∀g' lb' aE a' w',eu g own w g' aE w'->SR gl base N LC cR g' lb' aE s' a' w'->Q .normal a' w')->wpOpsIn F n P ops Q ((qZ m).map (·+k)) a w:=by
 intro m;induction m with
 |zero=>
  intro k g lb own s s' a w hk hs hx hQ
  have hlen:=RU hc;rw[List.drop_of_length_le (by simp at hlen;omega)]at hx;cases hx;simpa[wpOpsIn]using hQ _ _ _ _ _ (eu.refl _ _ _) hs
 |succ m ih=>
  intro k g lb own s s' a w hk hs hx hQ
  have dh:k<ops.size:=by omega
  obtain⟨o',rN,cI⟩:=RT hc (i:=k) (o:=ops[k]) (by simp[dh]);have χ:=(fu.1 rN).1;have acB:=(fu.1 rN).2;rw[List.drop_eq_getElem_cons χ,acB]at hx;simp only[dT]at hx;split at hx
  ·rename_i s1 Ω;have hr:(qZ (m+1)).map (·+k)=k::(qZ m).map (·+(k+1)):=by rw[List.range_succ_eq_map];simp[List.map_map,Function.comp_def,qc,Ae 1 k]
   rw[hr,wpOpsIn_cons];refine XN hF hd iQ (wq dh) cI hs Ω fun g' lb' aE a' w' h1 h2=>?_;exact ih (k+1) g' lb' aE s1 s' a' w' (by omega) h2 hx fun g2 D2 pX a2 w2 h3 h4=>hQ _ _ _ _ _ (h1.trans h3) h4
  ·cases hx
def kS(listed:Array Bool)(j:Nat):Prop:=listed.getD j false=true
theorem Wj{listed:Array Bool}{i:Nat}(hi:i<listed.size)(j:Nat):kS (listed.setIfInBounds i true) j↔kS listed j\/j=i:=by
 unfold kS;by_cases h:i=j
 ·subst h;simp[hi]
 ·rw[getD_set_ne false h];exact⟨.inl,fun h'=>h'.resolve_right fun e=>h e.symm⟩
theorem Wy{listed:Array Bool}{i:Nat}(hi:i<listed.size):¬kS listed i↔listed.getD i true=false:=by unfold kS;simp[hi]
theorem Z8(he:ql ops.toList 0=true){listed:Array Bool}(eh:∀i o,ops[i]?=some o->kS listed i->∀e∈o.after,Region.binds .any e=true->kS listed e.on)
  (aJ:listed.size=ops.size):∀j i,i∈(iW ops).getD j []->kS listed j->kS listed i:=by
 intro j;induction j using al6 with
 |_ j ih=>
  intro i hi hj
  have vw:j<ops.size:=by
   rcases cX j ops.size with h|h
   ·exact h
   ·unfold kS at hj;simp[al7 (aJ▸h)]at hj
  obtain⟨e,h1,h2,h3,h4⟩:=Pj he (wq vw) hi;have:=eh j _ (wq vw) hj e h1 h2;rcases h4 with rfl|h4
  ·exact this
  ·exact ih e.on h3 i h4 this
theorem ahY(he:ql ops.toList 0=true):∀j i,i∈(iW ops).getD j []->i<j:=by
 intro j;induction j using al6 with
 |_ j ih=>
  intro i hi
  rcases cX j ops.size with vw|vw
  ·obtain⟨e,h1,h2,h3,h4⟩:=Pj he (wq vw) hi;rcases h4 with rfl|h4
   ·exact h3
   ·have:=ih e.on h3 i h4;omega
  ·obtain⟨rest,h1,h2⟩:=W4 ops.toList [];have hl:(iW ops).length=ops.size:=by simp[iW,h1,h2]
   rw[nC,hU (by omega)]at hi;simp at hi
theorem adi{l:List aV}{j:Nat}{o:aV}(h:l[j]?=some o)(hc:o.cls= .mA true):c8 l j=true:=by
 simp only[c8,h];obtain⟨dst,op,gd⟩:=o;cases op with
 |alloc g z=>cases g<;>cases dst<;>simp[aV.cls]at hc
 |box g n x=>cases g<;>cases dst<;>simp[aV.cls]at hc
 |tB x=>cases dst<;>simp[aV.cls]at hc
 |st=>rfl
 |_=>simp[aV.cls]at hc
theorem agW{l:List aV}{s:St}{tr:List St}(he:ql ops.toList 0=true)(ai:Cx l (iW ops)=true)(Be:ef gl ax l s=some tr)
  (Uj:(sa l (iW ops) qJ zl).all (fun p=>cZ gl l tr p.1 p.2)=true) (haf:(sa l (iW ops) Bl qJ).all (fun p=>pC gl l tr p.1 p.2)=true):
  Trace gl ax l (fun i=>tr.getD i s)/\J8 gl l (fun i=>tr.getD i s) (fun i j=>i∈(iW ops).getD j []):=by
 obtain⟨h1,h2,h3⟩:=Qy Be;have hT:Trace gl ax l (fun i=>tr.getD i s):=by refine⟨fun i o ho=>?_⟩;obtain⟨a,b,k1,k2,k3⟩:=h3 i o ho;simpa[nC,k1,k2]using k3
 have HE:∀i j,¬i∈(iW ops).getD j []->¬j∈(iW ops).getD i []->cmp (iW ops) i j=false:=by intro i j h h';simp only[cmp,EX];exact⟨by simpa using h,by simpa using h'⟩
 refine⟨hT,⟨fun i j h=>ahY he j i h,?_,?_,?_,?_⟩⟩
 ·intro i j oi oj hi hj τ n1 n2;have ab:=(fu.1 hi).1;have dJ:=(fu.1 hj).1;simp only[Cx,dS,Ad]at ai;have:=ai j dJ i ab;simpa[τ,HE i j n1 n2,hi,hj]using this
 ·intro i j oi oj ag m a hi hj Ξ eh n1 n2 hw id off hp;have Γ:=OR (p:=qJ) (q:=zl) hi hj (by rw[Cs Ξ];rfl) (by rcases eh with eh|eh<;>(rw[eh];rfl)) (HE i j n1 n2);have je:=dS.1 Uj _ Γ;obtain⟨si,_,k1,_,_⟩:=h3 i oi hi;obtain⟨sj,EG,k3,k4,_⟩:=h3 j oj hj;simp only[nC,k1,k3,k4,E2]at hw hp⊢;simp only[cZ,hi,k1,k3,k4]at je;split at je
  ·rename_i NW;exact absurd NW hw
  ·rename_i YL m' a' DA _;rw[Ξ]at DA;cases DA;rw[hp]at je;simp only[dW]at je;exact⟨FQ je.1,FQ je.2⟩
  ·cases je
 ·intro i j oi oj ag m a hi hj Ξ eh n1 n2 hw d v off hp;have Γ:=OR (p:=qJ) (q:=zl) hi hj (by rw[Cs Ξ];rfl) (by rw[eh];rfl) (HE i j n1 n2);have je:=dS.1 Uj _ Γ;obtain⟨si,_,k1,_,_⟩:=h3 i oi hi;obtain⟨sj,EG,k3,k4,_⟩:=h3 j oj hj;simp only[nC,k1,k3,k4,E2]at hw hp⊢;simp only[cZ,hi,k1,k3,k4]at je;split at je
  ·rename_i NW;exact absurd NW hw
  ·rename_i YL m' a' DA _;rw[Ξ]at DA;cases DA;rw[hp]at je;simp only[adi hj eh,al0,Bool.false_or,dW]at je;exact⟨FQ je.1,FQ je.2⟩
  ·cases je
 ·intro i j oi oj ag m a d hi hj Ξ eh n1 n2 v off hp;have Γ:=OR (p:=Bl) (q:=qJ) hi hj (by rw[eh];rfl) (by rw[Cs Ξ];rfl) (HE i j n1 n2);have je:=dS.1 haf _ Γ;obtain⟨sj,EG,k3,k4,_⟩:=h3 j oj hj;simp only[nC,k3,E2]at hp;simp only[pC,hi,hj,k3,Ξ,hp,af7 eh]at je;simp at je
theorem YP(hF:∀f,F.fn f)(hd:F.depth=none)(iQ:nA F P base LC gl ax){l:List aV}(hc:tU P bf N ops ops.toList=some l){T:Nat->St}
  (he:ql ops.toList 0=true) (hT:Trace gl ax l T) (hO:J8 gl l T (fun i j=>i∈(iW ops).getD j [])):
  ∀(fuel:Nat) (listed:Array Bool) (g:Gh) (lb:LB) (own:OW) (s:St) (a:Act) (w:World),listed.size=ops.size->listed.countP (fun b=>!b)<=fuel→
   (∀i o,ops[i]?=some o->kS listed i->∀e∈o.after,Region.binds .any e=true->kS listed e.on)->Inv l T (kS listed) s->SR gl base N LC cR g lb own s a w→
   (∀g' lb' aE a' w',eu g own w g' aE w'->SR gl base N LC cR g' lb' aE (T l.length) a' w'->Q .normal a' w')->wpAnyIn F n P .any ops Q fuel listed a w:=by
 have hlen:=RU hc;simp only[Array.length_toList]at hlen;have A0:∀(listed:Array Bool) (g:Gh) (lb:LB) (own:OW) (s:St) (a:Act) (w:World),listed.size=ops.size->Inv l T (kS listed) s->SR gl base N LC cR g lb own s a w→
   (∀g' lb' aE a' w',eu g own w g' aE w'->SR gl base N LC cR g' lb' aE (T l.length) a' w'->Q .normal a' w')->Region.ready .any ops listed=[]->Q .normal a w:=by
  intro listed g lb own s a w aJ hI hs hQ hr;have jv:∀i,i<ops.size->kS listed i:=by
   intro i;induction i using al6 with
   |_ i ih=>
    intro hi
    refine Classical.byContradiction fun hn=>?_;have:i∈Region.ready .any ops listed:=by refine mem_ready.2 ⟨(Wy (by omega)).1 hn,_,wq hi,fun e hm hb=>?_⟩;have:=aaL he (i:=i) (o:=ops[i]) (by simp[hi]) e hm hb;exact ih e.on (by omega) (by omega)
    rw[hr]at this;cases this
  refine hQ _ _ _ _ _ (eu.refl _ _ _) (hs.congr fun r=>hI r l.length (bA _) (fun j o hj _ _=>jv j (by omega)) fun j o hj ho _ _=>?_);have:=(fu.1 ho).1;omega
 intro fuel;induction fuel with
 |zero=>
  intro listed g lb own s a w aJ oI eh hI hs hQ
  have hr:Region.ready .any ops listed=[]:=by
   refine List.eq_nil_iff_forall_not_mem.2 fun i hi=>?_;obtain⟨h1,o,h2,_⟩:=mem_ready.1 hi;have χ:i<listed.size:=by rw[aJ];exact(zX.1 h2).1
   have h0:listed.countP (fun b=>!b)=0:=by omega
   rw[Array.countP_eq_zero]at h0;have:=h0 listed[i] (alZ χ);simp[χ]at h1;simp[h1]at this
  exact⟨hr,A0 listed g lb own s a w aJ hI hs hQ hr⟩
 |succ fuel ih=>
  intro listed g lb own s a w aJ oI eh hI hs hQ
  refine⟨A0 listed g lb own s a w aJ hI hs hQ,fun i hi=>?_⟩;obtain⟨h1,o,h2,h3⟩:=mem_ready.1 hi;have χ:i<listed.size:=by rw[aJ];exact(zX.1 h2).1
  have zh:¬kS listed i:=(Wy χ).2 h1;obtain⟨o',rN,cI⟩:=RT hc (i:=i) (o:=o) (by simpa using h2);have Ul:=Z8 he eh aJ;have H9:∀j,j∈(iW ops).getD i []->kS listed j:=by
   intro j hj;obtain⟨e,k1,k2,k3,k4⟩:=Pj he h2 hj;have:=h3 e k1 k2;rcases k4 with rfl|k4
   ·exact this
   ·exact Ul _ _ k4 this
  obtain⟨s1,k1,k2⟩:=agX hT hO hI (fun i j h h'=>Ul j i h h') rN zh H9;refine XN hF hd iQ h2 cI hs k1 fun g' lb' aE a' w' h4 h5=>?_;refine ih _ g' lb' aE s1 a' w' (by simpa using aJ) ?_ ?_ ?_ h5 fun g2 D2 pX a2 w2 h6 h7=>hQ _ _ _ _ _ (h4.trans h6) h7
  ·have hx:listed[i]=false:=by simpa[χ]using h1
   rw[Array.setIfInBounds_def,dif_pos χ,Array.countP_set];simp[hx];omega
  ·intro j oj hj hl e hm hb;rw[Wj χ]at hl⊢;rcases hl with hl|rfl
   ·exact .inl (eh j oj hj hl e hm hb)
   ·rw[h2]at hj;cases hj;exact .inl (h3 e hm hb)
  ·have:kS (listed.setIfInBounds i true)=fun j=>kS listed j\/j=i:=funext fun j=>propext (Wj χ j);rw[this];exact k2
end
section
variable(P:Program)(bf:Nat->Bool)(N:Nat)
def aib(l:List aV):List Nat:=l.filterMap fun o=>match o.op with
 | .alloc true _| .box true _ _=>o.dst
 |_=>none
def KH(ops:Array Oper)(draw:Bool):AC:=match tU P bf N ops ops.toList with
 |some l=>if draw then(if P.follows .mixedOrders&&ql ops.toList 0&&Cx l (iW ops)then .draw l (sa l (iW ops) qJ zl) (sa l (iW ops) Bl qJ)else
   match tU P (fun _=>false) N ops ops.toList with
   |some l'=>if P.follows .mixedOrders&&ql ops.toList 0&&Cx l' (iW ops)then .seq (.draw l' (sa l' (iW ops) qJ zl) (sa l' (iW ops) Bl qJ)) (.Ek (aib l))else .bad
   |none=> .bad)else .ops l
 |none=> .bad
def ko:Bool->Code->AC
 |_,.skip=> .skip
 |_,.region _ ops draw=>KH P bf N ops draw
 |rf,.seq a b=> .seq (ko rf a) (ko rf b)
 |rf,.cond x a b=>match cB x with
  |some x=> .cond x (ko rf a) (ko rf b)
  |none=> .bad
 |rf,.block id a=> .block id (ko rf a)
 |rf,.loop a=> .loop (ko rf a)
 |_,.exit id=> .exit id
 |_,.ret=> .ret
 |_,.label _=> .skip
 |rf,.scope a=>ko rf a
 |rf,.rangeFunc f ps fO body=>match cB f with
  |some f=>if rf&&ps.toList.all (fun p=>decide (p<N))then .BC f ps.toList (ko false fO) (ko false body)else .bad
  |none=> .bad
 |_,_=> .bad
end
def Ex.AA:Ex->Exit
 | .normal=> .normal
 | .exit i=> .exit i
 | .ret=> .ret
section
variable{F:Fence}{n:Nat}{P:Program}{bf:Nat->Bool}{N:Nat}{gl:Nat->AV}{base:Nat}{LC:eX}{cR:Nat}{ax:cu}
theorem aia{d:Nat}{g:Gh}{lb:LB}{own:OW}{s s':St}{a:Act}{w:World}(hs:SR gl base N LC cR g lb own s a w)(h:El d s=some s'):
  ∃g' aE,eu g own w g' aE w/\SR gl base N LC cR g' lb aE s' a w:=by
 unfold El at h;split at h
 ·rename_i d' v hd;split at h
  ·rename_i v' l hl;split at h
   ·rename_i fB;obtain⟨rfl,rfl⟩:=fB;cases h;obtain⟨b,hb,hc⟩:=hs.loc.cells _ _ _ hl;have Dw:g.mb s.mem.ε.length=none:=by
     cases hx:g.mb s.mem.ε.length with
     |none=>rfl
     |some y=>have:=hs.mem.ju _ _ hx;omega
    let mL:Nat->Option Nat:=fun id=>if id=s.mem.ε.length then some b else g.mb id;let aE:OW:=fun b'=>if b'=b then some (.m s.mem.ε.length)else own b';have di:g.sub {g with mb:=mL}:=⟨fun _ _ _ h=>h,fun id c hc=>by simp only[mL];rw[if_neg (fun he=>by rw[he,Dw]at hc;cases hc)];exact hc,fun _ _ _ h=>h⟩;have Ω:eu g own w {g with mb:=mL} aE w:=⟨di,bA _,rfl,rfl,rfl,fun _ _ _=>rfl,fun b' _ aT=>by simp only[aE];rw[if_neg (fun he=>by rw[he,hc.1]at aT;cases aT)];exact aT,fun _ _ _ _=>rfl⟩;have lM:a_ g aE LC s.mem w:=hs.mem.bm g.eP (fun _ h=>h) (fun _ _ h=>h) (fun id b' aT=>⟨by simp only[aE];rw[if_neg (fun he=>by rw[he,hc.1]at aT;cases aT)],rfl,fun _=>rfl⟩) hs.mem.im;refine⟨{g with mb:=mL},aE,Ω,⟨fun t=>?_,hs.gl.mono di,hs.size,hs.defers.bm Ω,?_,?_,⟨fun b' o aT=>?_,hs.own.base⟩⟩⟩
    ·have ht:=(hs.env t).sub di;simp only[fA];split
     ·rename_i ML;subst ML;rw[hd]at ht;generalize a.tmps.getD _ undef=x at ht;cases ht with
      |aj _ _ _ _ b' aT=>
       rw[hb]at aT
       cases aT;exact .μ _ _ _ _ (by simp[mL])
     ·exact ht
    ·refine hs.mem.push lM _ mL (fun id c hc=>?_) (fun id hid=>if_neg (by omega)) ?_
     ·simp only[mL]at hc;split at hc
      ·exact .inr (by assumption)
      ·exact .inl hc
     ·obtain⟨_,h2,ar,e,h3,h4,h5,h6⟩:=hc;refine⟨b,by simp[mL],by simp[aE],h2,ar,e,h3,by simpa using h4,fun i hi ab=>?_,h6⟩;simp only[iY];exact(IT hs.mem (h5 i (by simpa using hi) ab)).sub di
    ·refine⟨fun d2 v2 l2 rI=>?_,fun d2 v2 s2 p2 rI=>?_,fun d2 v2 b2 dy=>?_⟩
     ·simp only[gX]at rI;split at rI
      ·cases rI
      ·rename_i τ;obtain⟨b2,k1,k2⟩:=hs.loc.cells _ _ _ rI;refine⟨b2,k1,k2.bm di (fun _ _ _ h=>h) ?_ rfl fun _=>rfl⟩;simp only[aE];rw[if_neg (fun he=>by
        have:=k2.1
        rw[he,hc.1]at this;simp only[bc,Own.l.injEq]at this;exact τ this)]
     ·simp only[gX]at rI;split at rI
      ·cases rI
      ·rename_i τ;obtain⟨b2,k1,k2,k3⟩:=hs.loc.iter _ _ _ _ rI;refine⟨b2,k1,?_,k3⟩;simp only[aE];rw[if_neg (fun he=>by
        rw[he,hc.1]at k2
        simp only[bc,Own.l.injEq]at k2;exact τ k2)]
       exact k2
     ·obtain⟨v3,blk,k1,k2⟩:=hs.loc.wm _ _ _ dy;simp only[gX];split
      ·rename_i iq;subst iq;rw[hl]at k1;cases k1;exact⟨_,_,rfl,k2⟩
      ·exact⟨v3,blk,k1,k2⟩
    ·simp only[aE]at aT;split at aT
     ·rename_i he;subst he;exact hs.own.ge _ _ hc.1
     ·exact hs.own.ge _ _ aT
   ·cases h
  ·cases h
 ·cases h
theorem Xb:∀{l:List Nat} {g:Gh} {own:OW} {lb:LB} {s s':St} {a:Act} {w:World},SR gl base N LC cR g lb own s a w->By l s=some s'→
  ∃g' aE,eu g own w g' aE w/\SR gl base N LC cR g' lb aE s' a w
 |[],g,own,lb,s,s',a,w,hs,h=>by cases h;exact⟨g,own,.refl _ _ _,hs⟩
 |d::l,g,own,lb,s,s',a,w,hs,h=>by
  simp only[By]at h;split at h
  ·rename_i h1;obtain⟨g1,uF,k1,k2⟩:=aia hs h1;obtain⟨g2,pX,k3,k4⟩:=Xb k2 h;exact⟨g2,pX,k1.trans k3,k4⟩
  ·cases h
theorem Sr(hF:∀f,F.fn f)(hd:F.depth=none)(iQ:nA F P base LC gl ax){id:Nat}{ops:Array Oper}{l:List aV}(hc:tU P bf N ops ops.toList=some l)
  (ai:(P.follows .mixedOrders&&ql ops.toList 0&&Cx l (iW ops))=true) {g:Gh} {lb:LB} {own:OW} {s s1:St} {a:Act} {w:World}
  (hs:SR gl base N LC cR g lb own s a w) (hx:eU gl ax l (sa l (iW ops) qJ zl) (sa l (iW ops) Bl qJ) s=some s1) {Q:Exit->Act->World->Prop}
  (hQ:∀g' lb' aE a' w',eu g own w g' aE w'->SR gl base N LC cR g' lb' aE s1 a' w'->Q .normal a' w'):(Code.region id ops true).wpIn F n P Q a w:=by
 simp only[dW]at ai;unfold eU at hx;split at hx
 ·rename_i tr Be;split at hx
  ·rename_i eD;simp only[dW]at eD;obtain⟨hT,hO⟩:=agW ai.1.2 ai.2 Be eD.1 eD.2;obtain⟨k1,k2,k3⟩:=Qy Be;have w7:tr.getD 0 s=s:=by simp[nC,k2]
   have hTn:tr.getD l.length s=s1:=by rw[List.getLast?_eq_getElem?,k1]at hx;simp at hx;simp[nC,hx]
   obtain⟨d1,d2⟩:=hs.drawn (w.drawn+1);refine wpIn_region_any ai.1.1 (YP hF hd iQ hc ai.1.2 hT hO ops.size _ g lb own s a _ (by simp) ?_ ?_ ?_ d1 ?_)
   ·exact uZ Array.countP_le_size (by simp)
   ·intro i o ho hl;unfold kS at hl;rcases cX i ops.size with h|h<;>simp[h]at hl
   ·intro r k hk h1 h2;have:∀j,¬kS (al8 ops.size false) j:=fun j hl=>by unfold kS at hl;rcases cX j ops.size with h|h<;>simp[h]at hl
    have H':=hT.same (r:=r) (i:=0) (Nat.zero_le k) hk fun j o _ hj ho hw=>this j (h1 j o hj ho hw);simp only[w7]at H';exact Qn H'
   ·intro g' lb' aE a' w' h1 h2;rw[hTn]at h2;exact hQ _ _ _ _ _ (d2.trans h1) h2
  ·cases hx
 ·cases hx
theorem aiD(hF:∀f,F.fn f)(hd:F.depth=none)(iQ:nA F P base LC gl ax){id:Nat}{ops:Array Oper}{draw:Bool}{lp:pq}{g:Gh}{lb:LB}{own:OW}{s s':St}{ex:Ex}{a:Act}{w:World}
  (hs:SR gl base N LC cR g lb own s a w) (hx:exec gl ax lp (KH P bf N ops draw) s=some (ex,s')) {Q:Exit->Act->World->Prop}
  (hQ:∀g' lb' aE a' w',eu g own w g' aE w'->SR gl base N LC cR g' lb' aE s' a' w'->Q ex.AA a' w'):(Code.region id ops draw).wpIn F n P Q a w:=by
 unfold KH at hx;split at hx
 ·rename_i l hc;split at hx
  ·rename_i yP;subst yP;split at hx
   ·rename_i ai;simp only[exec,bE,az]at hx;obtain⟨s1,hx,rfl,rfl⟩:=hx;exact Sr hF hd iQ hc ai hs hx hQ
   ·split at hx
    ·rename_i l' gD;split at hx
     ·rename_i ai;simp only[exec]at hx;cases qG:eU gl ax l' (sa l' (iW ops) qJ zl) (sa l' (iW ops) Bl qJ) s with
      |none=>rw[qG]at hx;cases hx
      |some s1=>
       rw[qG]at hx
       simp only[qh,bE,az]at hx;obtain⟨s2,hx,rfl,rfl⟩:=hx;refine Sr hF hd iQ gD ai hs qG fun g' lb' aE a' w' h1 h2=>?_;obtain⟨g2,pX,k1,k2⟩:=Xb h2 hx;exact hQ _ _ _ _ _ (h1.trans k1) k2
     ·cases hx
    ·cases hx
  ·rename_i yP;obtain rfl:draw=false:=by simpa using yP
   simp only[exec,bE,az]at hx;obtain⟨s1,hx,rfl,rfl⟩:=hx;refine wpIn_region ?_;have:=agV (n:=n) (Q:=Q) hF hd iQ hc ops.size 0 g lb own s s1 a w (by simp) hs (by simpa using hx) hQ;simpa using this
 ·cases hx
end
theorem Gh.aaj(g:Gh)(n:Nat):(g.cut n).cut n=g.cut n:=by
 unfold Gh.cut;congr 1
 ·funext id;by_cases h:id<n<;>simp[h]
 ·funext t m;by_cases h:t<n<;>simp[h]
theorem Gh.FF(g:Gh)(n:Nat):(g.cut n).sub g:=
 ⟨fun _ _ _ h=>h,fun id b h=>(by simp only[Gh.cut]at h;split at h<;>first|exact h|cases h),fun t m x h=>(by simp only[Gh.cut]at h;split at h<;>first|exact h|cases h)⟩
theorem ZT{g:Gh}{n b o cap id k:Nat}{c:ξ}(h:mV g n b o cap c)(hl:c.lo id=true)(hk:id<k):mV (g.cut k) n b o cap c:=by
 cases c with
 |any=>trivial
 |nil=>exact h
 |full=>exact h
 |own t=>
  simp only[ξ.lo,decide_eq_true_eq]at hl
  exact⟨h.1,by simp only[Gh.cut];rw[if_pos (by omega)];exact h.2⟩
theorem OM{id:Nat}{v:AV}(h:lo id v=true):∀x∈v.cells,lo id x=true:=by
 intro x hx;cases v with
 |agg l=>simp only[lo,np,dS]at h;exact h x hx
 |aU l=>cases hx
 |undef=>cases hx
 |_=>simp only[AV.cells,List.mem_singleton]at hx;subst hx;exact h
theorem VR.aak{g:Gh}{lb:LB}{v:AV}{x:Value}(h:VR g lb v x){id n:Nat}(hn:id<n)(hl:lo id v=true):VR (g.cut n) lb v x:=by
 induction h with
 |undef=>exact .undef _
 |cU _ x h=>exact .cU _ x h
 |int _ k n=>exact .int _ k n
 |bool _ b=>exact .bool _ b
 |str _ b s h=>exact .str _ b s h
 |iU=>exact .iU _
 |aj _ d v off b h=>exact .aj _ d v off b h
 |μ _ mI off b h=>
  simp only[lo,decide_eq_true_eq]at hl
  exact .μ _ mI off b (by simp only[Gh.cut];rw[if_pos (by omega)];exact h)
 |ref _ l b o xs cC _ ih=>
  simp only[lo,np,dS]at hl
  exact .ref _ l b o xs cC fun i hi=>ih i hi (hl _ (df hi))
 |iS=>exact .iS _
 |iw _ c a cap hc=>exact .iw _ c a cap hc
 |sl _ kd mI off m cap gq b hc eD h=>
  simp only[lo,decide_eq_true_eq]at hl
  exact .sl _ kd mI off m cap gq b hc eD (by simp only[Gh.cut];rw[if_pos (by omega)];exact h)
 |list _ c l b o sz m cap xs hm dP hc aJ cC _ ih=>
  simp only[lo,np,dW,dS]at hl
  exact .list _ c l b o sz m cap xs hm dP (ZT hc hl.1 hn) aJ cC fun i hi j hj=>ih i hi j hj (OM (hl.2 _ (df hi)) _ (df hj))
 |agg _ l a hs h1 _ ih=>
  simp only[lo,np,dS]at hl
  exact .agg _ l a hs h1 fun i hi ab=>ih i hi ab (hl _ (df hi))
 |aU _ l a hs _ ih=>
  simp only[lo,np,dS]at hl
  exact .aU _ l a hs fun i hi ab=>ih i hi ab (hl _ (df hi))
 |fn _ f f' l m a b hs ht hy _ _ qI oV=>
  simp only[lo,np,dW,dS]at hl
  refine .fn _ f f' l m a b hs ht ?_ (fun i hi ab=>qI i hi ab (hl.1.2 _ (df hi))) (fun i hi ab=>oV i hi ab (hl.2 _ (df hi)));cases f<;>cases f'<;>first|exact hy|exact hy.elim|skip
  rename_i i b;have:=hl.1.1;simp only[Fn.below,decide_eq_true_eq]at this;simp only[su,Gh.cut]at hy⊢;rw[if_pos (by omega)];exact hy
 |fV=>exact .fV _
 |iface _ t v x _ ih=>exact .iface _ t v x (ih hl)
 |gx=>exact .gx _
 |map _ mI b h=>
  simp only[lo,decide_eq_true_eq]at hl
  exact .map _ mI b (by simp only[Gh.cut];rw[if_pos (by omega)];exact h)
 |gY=>exact .gY _
theorem VR.Si{g:Gh}{lb:LB}{v:AV}{x:Value}(h:VR g lb v x){g0:Gh}{n:Nat}(hd:∀id b,g0.mb id=some b->id<n)(hr:∀t m y,g0.rows t m=some y->t<n):
  ∀{lb0:LB} {x0:Value},VR g0 lb0 v x0->VR (g.cut n) lb v x:=by
 induction h with
 |undef=>intro _ _ _;exact .undef _
 |cU _ x h=>intro _ _ _;exact .cU _ x h
 |int _ k n=>intro _ _ _;exact .int _ k n
 |bool _ b=>intro _ _ _;exact .bool _ b
 |str _ b s h=>intro _ _ _;exact .str _ b s h
 |iU=>intro _ _ _;exact .iU _
 |aj _ d v off b h=>intro _ _ _;exact .aj _ d v off b h
 |μ _ mI off b h=>
  intro _ _ h0
  cases h0 with
  |μ _ _ _ b0 gM=>exact .μ _ mI off b (by simp only[Gh.cut];rw[if_pos (hd _ _ gM)];exact h)
 |ref _ l b o xs cC _ ih=>
  intro _ _ h0
  cases h0 with
  |ref _ _ b0 o0 xs0 M8 vM=>exact .ref _ l b o xs cC fun i hi=>ih i hi (vM i hi)
 |iS=>intro _ _ _;exact .iS _
 |iw _ c a cap hc=>intro _ _ _;exact .iw _ c a cap hc
 |sl _ kd mI off m cap gq b hc eD h=>
  intro _ _ h0
  cases h0 with
  |sl _ _ _ _ _ _ _ b0 AY _ gM=>exact .sl _ kd mI off m cap gq b hc eD (by simp only[Gh.cut];rw[if_pos (hd _ _ gM)];exact h)
 |list _ c l b o sz m cap xs hm dP hc aJ cC _ ih=>
  intro _ _ h0
  cases h0 with
  |iS=>exact hc.elim
  |iw _ c0 a0 ZS AY=>
   refine .list _ c [] b o sz m cap xs hm dP ?_ aJ cC fun i hi=>absurd hi (Nat.not_lt_zero _)
   rcases AY with rfl|⟨rfl,_⟩
   ·trivial
   ·exact hc
  |list _ _ _ b0 o0 sz0 m0 ZS xs0 UK akL AY ak3 M8 vM=>
   refine .list _ c l b o sz m cap xs hm dP ?_ aJ cC fun i hi j hj=>ih i hi j hj (vM i hi j hj)
   cases c with
   |any=>trivial
   |nil=>exact hc
   |full=>exact hc
   |own t=>exact⟨hc.1,by simp only[Gh.cut];rw[if_pos (hr _ _ _ AY.2)];exact hc.2⟩
 |agg _ l a hs h1 _ ih=>
  intro _ _ h0
  cases h0 with
  |agg _ _ a0 kO aC vM=>exact .agg _ l a hs h1 fun i hi ab=>ih i hi ab (vM i hi (by omega))
 |aU _ l a hs _ ih=>
  intro _ _ h0
  cases h0 with
  |aU _ _ a0 kO vM=>exact .aU _ l a hs fun i hi ab=>ih i hi ab (vM i hi (by omega))
 |fn _ f f' l m a b hs ht hy _ _ qI oV=>
  intro _ _ h0
  cases h0 with
  |fn _ _ f0 _ _ a0 b0 kO ht0 DS vM vO=>
   refine .fn _ f f' l m a b hs ht ?_ (fun i hi ab=>qI i hi ab (vM i hi (by omega))) (fun i hi ab=>oV i hi ab (vO i hi (by omega)))
   cases f<;>cases f'<;>first|exact hy|exact hy.elim|skip
   cases f0<;>first|exact DS.elim|skip
   simp only[su,Gh.cut]at hy DS⊢;rw[if_pos (hd _ _ DS)];exact hy
 |fV=>intro _ _ _;exact .fV _
 |iface _ t v x _ ih=>
  intro _ _ h0
  cases h0 with
  |iface _ _ _ x0 h0=>exact .iface _ t v x (ih h0)
 |gx=>intro _ _ _;exact .gx _
 |map _ mI b h=>
  intro _ _ h0
  cases h0 with
  |map _ _ b0 gM=>exact .map _ mI b (by simp only[Gh.cut];rw[if_pos (hd _ _ gM)];exact h)
 |gY=>intro _ _ _;exact .gY _
def EB(n:Nat):Nat->θ->θ
 |0,b=>b
 |k+1,b=>EB n k (b.BE n)
theorem ajw(n:Nat):∀(t:List Nat) (bs:List θ) (id:Nat) (blk:θ),(lS n t bs)[id]?=some blk->∃b0 k,bs[id]?=some b0/\blk=EB n k b0/\(k=0->id∉t):=by
 intro t;induction t with
 |nil=>intro bs id blk h;exact⟨blk,0,h,rfl,fun _ h=>by cases h⟩
 |cons i t ih=>
  intro bs id blk h
  simp only[lS]at h;obtain⟨b0,k,h1,h2,h3⟩:=ih _ id blk h;split at h1
  ·rename_i b hb;rw[wx]at h1;split at h1
   ·rename_i hi;subst hi;split at h1
    ·cases h1;exact⟨b,k+1,hb,h2,fun h=>by omega⟩
    ·cases h1
   ·rename_i hi;exact⟨b0,k,h1,h2,fun hk hm=>by rcases cw.1 hm with rfl|hm;exact hi rfl;exact h3 hk hm⟩
  ·rename_i hb;refine⟨b0,k,h1,h2,fun hk hm=>?_⟩;rcases cw.1 hm with rfl|hm
   ·rw[hb]at h1;cases h1
   ·exact h3 hk hm
theorem EC{n k:Nat}{b:θ}(h:∀l,b≠ .cells l):EB n k b=b:=by
 induction k with
 |zero=>rfl
 |succ k ih=>
  have:b.BE n=b:=by cases b<;>first|rfl|exact absurd rfl (h _)
  rw[EB,this,ih]
theorem ajv{g:Gh}{n:Nat}:∀(k:Nat) (l:List AV),∃l',EB n (k+1) (.cells l)= .cells l'/\l'.length=l.length∧
  ∀i (h:i<l.length) (h':i<l'.length) x,VR g bV l[i] x->VR (g.cut n) bV l'[i] x:=by
 intro k;induction k generalizing g with
 |zero=>
  intro l
  refine⟨_,rfl,by simp,fun i h h' x hx=>?_⟩;simp only[iY];exact hx.exp n true
 |succ k ih=>
  intro l
  obtain⟨l',h1,h2,h3⟩:=ih (g:=g.cut n) (l.map (exp n true));refine⟨l',h1,by simpa using h2,fun i h h' x hx=>?_⟩;have:=h3 i (by simpa using h) h' x (by simp only[iY];exact hx.exp n true);rwa[Gh.aaj]at this
def pY(n:Nat)(own:OW):OW:=fun b=>match own b with
 |some (.m id)=>if id<n then some (.m id)else none
 |_=>none
theorem zA{n:Nat}{own:OW}{b id:Nat}(h:own b=some (.m id))(hid:id<n):pY n own b=some (.m id):=by simp[pY,h,hid]
theorem Bu{n:Nat}{own:OW}{b:Nat}{o:Own}(h:pY n own b=some o):own b=some o/\∃id,o= .m id:=by
 unfold pY at h;split at h
 ·rename_i id he;split at h
  ·cases h;exact⟨he,id,rfl⟩
  ·cases h
 ·cases h
theorem WJ{n:Nat}{own:OW}{b:Nat}(h:own b=none):pY n own b=none:=by simp[pY,h]
theorem QE{g0:Gh}{I3:OW}{LC:eX}{m0:Mem}{w0:World}(h0:a_ g0 I3 LC m0 w0){g:Gh}{own:OW}{m:Mem}{w:World}(h:a_ g own LC m w){extra:List θ}
  (hk:KM {ε:=m0.ε++extra,ζ:=[]} m):a_ (g.cut m0.ε.length) (pY m0.ε.length own) LC (m0.back m) w:=by
 have hlen:m0.ε.length<=m.ε.length:=by have:=hk.len;simp at this;omega
 have ep:(m0.back m).ε.length=m0.ε.length:=Kk hlen;refine⟨fun id b hb=>?_,fun t k x hx=>?_,fun id blk hb=>?_,h.im⟩
 ·rw[ep];simp only[Gh.cut]at hb;split at hb<;>first|assumption|cases hb
 ·rw[ep];simp only[Gh.cut]at hx;split at hx<;>first|assumption|cases hx
 ·have hid:id<m0.ε.length:=by have:=(fu.1 hb).1;omega
  simp only[Mem.back]at hb;obtain⟨b0,k,h1,h2,h3⟩:=ajw _ _ _ _ _ hb;rw[List.getElem?_take_of_lt hid]at h1;have hB:=h.blk id b0 h1;have jx:∀b,g.mb id=some b->(g.cut m0.ε.length).mb id=some b:=fun b hb=>by simp only[Gh.cut];rw[if_pos hid];exact hb
  cases b0 with
  |cells l=>
   obtain⟨b,k1,k2,k3,a,e,k4,k5,k6,k7⟩:=hB
   cases k with
   |succ k=>
    obtain⟨l',q1,q2,q3⟩:=ajv (g:=g) (n:=m0.ε.length) k l
    rw[h2,q1];exact⟨b,jx b k1,zA k2 hid,k3,a,e,k4,by omega,fun i hi ab=>q3 i (by omega) hi _ (k6 i (by omega) ab),k7⟩
   |zero=>
    rw[h2]
    refine⟨b,jx b k1,zA k2 hid,k3,a,e,k4,k5,fun i hi ab=>?_,k7⟩;have hv:=k6 i hi ab;rcases hk.cells id l h1 (by simp;omega) (h3 rfl) l[i] (df hi)with⟨We,q1,q2⟩|q1
    ·rw[eo hid]at q1;obtain⟨b',r1,r2,r3,a',e',r4,r5,r6,r7⟩:=h0.blk id _ q1;obtain⟨j,hj,hje⟩:=pj.1 q2;have hx:=r6 j hj (by omega);rw[hje]at hx;exact hv.Si h0.ju h0.nu hx
    ·exact hv.aak hid q1
  |iter s pos=>exact hB.elim
  |dead=>
   rw[h2,EC (by simp)]
   trivial
  |nH T e s=>
   rw[h2,EC (by simp)]
   obtain⟨b,k1,k2,k3,p,v,k4,k5,k6,k7⟩:=hB;refine⟨b,jx b k1,zA k2 hid,k3,p,v,k4,k5,k6,?_⟩;rcases k7 with k7|⟨r,cap,cur,q1,q2,q3⟩
   ·exact .inl k7
   ·exact .inr ⟨r,cap,cur,q1,zA q2 hid,q3⟩
  |map es=>
   rw[h2,EC (by simp)]
   obtain⟨b,k1,k2,k3,a,c,k4,k5,k6,k7⟩:=hB;refine⟨b,jx b k1,zA k2 hid,k3,a,c,k4,k5,fun i hi ab=>?_,k7⟩;obtain⟨q1,q2⟩:=k6 i hi ab;obtain⟨p1,p2⟩:=k7 _ (df hi);have r1:=VR.exp (lb':=bV) m0.ε.length true q1;have r2:=VR.exp (lb':=bV) m0.ε.length true q2;rw[CH _ _ _ p1]at r1;rw[CH _ _ _ p2]at r2;exact⟨r1,r2⟩
  |front c sz e=>
   rw[h2,EC (by simp)]
   obtain⟨k0,b,cap,k1,k2,k3,k4,k5,k6,k7⟩:=hB;refine⟨k0,b,cap,by simp only[Gh.cut];rw[if_pos hid];exact k1,k2,zA k3 hid,k4,k5,fun m' x hx=>k6 m' x ?_,by simp only[Gh.cut];rw[if_pos hid];exact k7⟩;simp only[Gh.cut]at hx;rw[if_pos hid]at hx;exact hx
  |loop env ps fO body st=>
   rw[h2,EC (by simp)]
   obtain⟨b,k1,k2,k3,L,N,k4,k5,k6,k7,k8,k9,k10,DY,Vz⟩:=hB;exact⟨b,jx b k1,zA k2 hid,k3,L,N,k4,fun t=>by
    obtain⟨g0,x0,q1,q2,q3⟩:=Vz t
    exact(k5 t).Si (fun i b hb=>Nat.lt_trans (q1 i b hb) hid) (fun i m y hy=>Nat.lt_trans (q2 i m y hy) hid) q3,k6,k7,k8,k9,k10,DY,Vz⟩
def BT(P:Program)(ax:cu):Prop:=
 ∀f first cap l mem r,ax (.fn (.func f) first cap) [.fn (.yield l) [] []] mem=some r->∃fn,P.funcs[f]?=some fn/\fn.body.isNone=false/\(fn.name== "runtime.NumGoroutine")=false
theorem WM{base:Nat}{own:OW}{w:World}(ho:bT base own w):gP own w.heap.size none=own:=by
 funext b;simp only[gP];split
 ·rename_i h;subst h;cases hx:own w.heap.size with
  |none=>rfl
  |some o=>exact absurd rfl (zB ho hx)
 ·rfl
theorem To(l:List AV)(t:Nat):aI (l.map ν) t=ν (aI l t):=by
 induction l generalizing t with
 |nil=>rfl
 |cons a l ih=>cases t with
  |zero=>rfl
  |succ t=>exact ih t
theorem Ew{P:Program}{f:FuncId}{fn:Func}{args:Array Value}{w:World}(h:P.funcs[f]?=some fn)(hb:fn.body.isNone=false)(hn:(fn.name== "runtime.NumGoroutine")=false):
  (callFunc f args).run P w= .ok (.enter f args) w:=by
 have h1:(program:Sem Program).run P w= .ok P w:=rfl;simp only[callFunc,Sem.run_bind,h1,Result.andThen_ok,h,hn,hb,jI,if_false];rfl
section
variable{F:Fence}{n:Nat}{P:Program}{bf:Nat->Bool}{N:Nat}{gl:Nat->AV}{base:Nat}{LC:eX}{cR:Nat}{ax:cu}
theorem adg{v fv:AV}(h:v.DW=some fv):∃f a b,v= .fn (.func f) a b/\fv=v:=by
 unfold AV.DW at h;split at h
 ·cases h;exact⟨_,_,_,rfl,rfl⟩
 ·cases h
theorem aiM(hF:∀f,F.fn f)(hd:F.depth=none)(vI:F.round=none)(iQ:nA F P base LC gl ax)(xa:BT P ax)(hK:KC ax)
  {g:Gh} {lb:LB} {own:OW} {s s':St} {ex:Ex} {a:Act} {w:World} (hs:SR gl base N LC cR g lb own s a w) {f:Operand} {f':bw} (hf:cB f=some f')
  {ps:Array Tmp} {fO body:Code} {Fe Fo:AC} (ha:LC N Fe fO) (hb:LC N Fo body) (cT:∀p∈ps.toList,p<N) {lp:pq}
  (hx:exec gl ax lp (.BC f' ps.toList Fe Fo) s=some (ex,s')) {Q:Exit->Act->World->Prop}
  (hQ:∀g' lb' aE a' w',eu g own w g' aE w'->SR gl base N LC cR g' lb' aE s' a' w'->Q ex.AA a' w'):(Code.rangeFunc f ps fO body).wpIn F n P Q a w:=by
 simp only[exec]at hx;split at hx
 ·rename_i r m hc;obtain⟨fv,De,hc⟩:=B8.1 hc;obtain⟨nP,A,B,ak,rfl⟩:=adg De;have xu:=hs.ev _ _ hf;rw[ak]at xu hc;obtain⟨As,Bs,TX⟩:∃As Bs,a.eval f= .func (.func nP) As Bs:=by
   generalize a.eval f=y at xu;cases xu with
   |fn _ _ f2 _ _ As Bs _ _ hy=>
    cases f2<;>first|exact hy.elim|skip
    cases hy;exact⟨As,Bs,rfl⟩
  obtain⟨fn0,MQ,MR,hf3⟩:=xa _ _ _ _ _ _ hc;refine wpIn_rangeFunc fun fn nU=>?_;have hlen:∀id b,g.mb id=some b->id<s.mem.ε.length:=hs.mem.ju;have zf:SR gl base N LC cR g lb own s {a with defers:=zr w.heap.size::a.defers} (w.alloc (.deferred (some []))):=by
   have hm:=hs.mem.alloc hs.own (.deferred (some [])) none;have hl:=hs.loc.alloc hs.own (.deferred (some [])) none;have ho:=hs.own.alloc (.deferred (some [])) none;rw[WM hs.own]at hm hl ho;refine⟨hs.env,hs.gl,hs.size,?_,hm,hl,ho⟩;obtain⟨h0,ms,h1,h2,h3⟩:=hs.defers;refine⟨by simp;omega,w.heap.size::ms,x_.2 ⟨fun hm=>by have:=(h3 _ hm).2.1;omega,h1⟩,by simp[h2],fun r hr=>?_⟩;rcases cw.1 hr with rfl|hr
   ·refine⟨h0,by simp,?_,qt w _⟩;cases hx:own w.heap.size with
    |none=>rfl
    |some o=>exact absurd rfl (zB hs.own hx)
   ·obtain⟨k1,k2,k3,k4⟩:=h3 r hr;exact⟨k1,by simp;omega,k3,(ud w _ k2).trans k4⟩
  have Ve:eu g own w g own (w.alloc (.deferred (some []))):=by have:=eu.alloc g own w (.deferred (some [])) none;rwa[WM hs.own]at this
  obtain⟨wA,Vj⟩:∃wA,wA=w.alloc (.deferred (some [])):=⟨_,rfl⟩;rw[<-Vj]at zf Ve;obtain⟨L,hL⟩:∃L:Loop,L= {state:= .ready,pending:=none,fn,tmps:=a.tmps,params:=ps,assign:=fO,body,defers:=w.heap.size}:=⟨_,rfl⟩;let gB:Gh:= {g with mb:=fun id=>if id=s.mem.ε.length then some wA.heap.size else g.mb id};let uH:OW:=gP own wA.heap.size (some (.m s.mem.ε.length));let wB:World:=wA.alloc (.loop L);have Ic:g.sub gB:=⟨fun _ _ _ h=>h,fun id b hb=>by
   have:=hlen id b hb
   simp only[gB];rw[if_neg (by omega)];exact hb,fun _ _ _ h=>h⟩
  have hmB:a_ gB uH LC {ε:=s.mem.ε++[.loop (s.env.map s.mem.ν) ps.toList Fe Fo .ready],ζ:=[]} wB:=by
   have hm:=zf.mem;have:=hm.push (hm.alloc zf.own (.loop L) (some (.m s.mem.ε.length))) (.loop (s.env.map s.mem.ν) ps.toList Fe Fo .ready) gB.mb (fun id b hb=>?_) (fun id hid=>?_) ?_
   ·exact⟨this.ju,this.nu,this.blk,this.im⟩
   ·simp only[gB]at hb;split at hb
    ·exact .inr (by assumption)
    ·exact .inl hb
   ·exact if_neg (by omega)
   ·refine⟨wA.heap.size,by simp[gB],by simp[gP],(show∀o,g.im wA.heap.size o=none from xB hm),L,N,qt wA _,fun t=>?_,by rw[hL],by rw[hL];exact zf.size,cT,by rw[hL];exact ha,by rw[hL];exact hb,?_,fun t=>?_⟩
    ·have:=(hs.env t).ν (lb':=bV);rw[show(s.env.map s.mem.ν)=s.env.map ν from rfl,To,hL];exact this.sub Ic
    ·rw[hL];exact⟨rfl,rfl⟩
    ·refine⟨g,a.tmps.getD t undef,hm.ju,hm.nu,?_⟩;rw[show(s.env.map s.mem.ν)=s.env.map ν from rfl,To];exact(hs.env t).ν
  have hoB:bT base uH wB:=zf.own.alloc _ _;have hyB:VR gB lb (.fn (.yield s.mem.ε.length) [] []) (.func (.yield wA.heap.size) #[] #[]):=
   .fn _ _ _ _ _ _ _ rfl rfl (by simp[su,gB]) (fun i hi=>by simp at hi) (fun i hi=>by simp at hi)
  have C9:=iQ (n-1) gB lb uH _ wB _ _ _ _ (a.eval f) #[.func (.yield wA.heap.size) #[] #[]] hmB hoB (hs.gl.mono Ic) (by rw[TX]at xu⊢;exact xu.sub Ic)
   (PW.cons hyB PW.nil) hc
  have UX:(Deferred.ofValue (a.eval f) #[.func (.yield wA.heap.size) #[] #[]]).run P wB= .ok {target:= .fn (.func nP) Bs,args:=As++ #[.func (.yield wA.heap.size) #[] #[]]} wB:=by rw[TX];rfl
  have hinv:(invoke (.fn (.func nP) Bs) (As++ #[.func (.yield wA.heap.size) #[] #[]])).run P wB= .ok (.enter nP (As++ #[.func (.yield wA.heap.size) #[] #[]]++Bs)) wB:=by simp only[invoke];exact Ew MQ MR hf3
  have dY:(do let d<-Deferred.ofValue (a.eval f) #[.func (.yield wA.heap.size) #[] #[]];invoke d.target d.args:Sem Next).run P wB= .ok (.enter nP (As++ #[.func (.yield wA.heap.size) #[] #[]]++Bs)) wB:=by simp only[Sem.run_bind,UX,Result.andThen_ok,hinv]
  have acU:(resolve a.eval (rangeCall f wA.heap.size) 0).run P wB= .ok {target:= .fn (.func nP) Bs,args:=As++ #[.func (.yield wA.heap.size) #[] #[]]} wB:=by
   have:(#[Operand.const (.func (.yield wA.heap.size) #[] #[])].map a.eval)= #[.func (.yield wA.heap.size) #[] #[]]:=by simp[Act.eval]
   simp only[resolve,this];exact UX
  unfold tH at C9;rw[dY]at C9;have hci:CallsIn F (n-1) P nP (As++ #[.func (.yield wA.heap.size) #[] #[]]++Bs) wB fun e w'=>∃x,e= .returned x/\lT base LC gl gB uH wB r m x w':=by
   rcases C9 with⟨f2,as2,h1,h2⟩|⟨_,_,h1,_⟩|⟨_,_,_,_,_,h1,_⟩
   ·cases h1;exact h2
   ·cases h1
   ·cases h1
  refine⟨wA.heap.size,[zr w.heap.size],wB,{target:= .fn (.func nP) Bs,args:=As++ #[.func (.yield wA.heap.size) #[] #[]]},wB,nP,_,wB,?_,acU,fun f' _=>hF f',hinv,fun h=>(by rw[hd]at h;cases h),hci.mono fun e w3 he=>?_⟩
  ·rw[vI];show _=Result.ok (wA.heap.size,[zr w.heap.size]) (wA.alloc (.loop L));rw[Vj,hL];simp only[Instr.enterLoop,Sem.run_bind,run_newObj,Result.andThen_ok,Sem.run_pure];rfl
  ·obtain⟨x,rfl,g3,uG,sZ,Nt,hv3,UW,akZ,akR⟩:=he;have hk:=hK _ _ _ _ _ hc;have ack:∃e p q r st,m.ε[s.mem.ε.length]?=some (.loop e p q r st)/\st≠ .busy/\s'= {s with mem:=s.mem.back m}∧
     ex=(match st with| .ready=> .normal| .busy=> .normal| .done none=> .ret| .done (some i)=> .exit i):=by
    split at hx
    ·rename_i he;cases hx;exact⟨_,_,_,_,_,he,by simp,rfl,rfl⟩
    ·rename_i he;cases hx;exact⟨_,_,_,_,_,he,by simp,rfl,rfl⟩
    ·rename_i he;cases hx;exact⟨_,_,_,_,_,he,by simp,rfl,rfl⟩
    ·cases hx
   obtain⟨e,p,q,r',st,gN,vE,rfl,hex⟩:=ack;obtain⟨b,b1,b2,b3,L3,N3,b4,b5,b6,b7,b8,b9,Am,tR,Cf⟩:=Nt.blk _ _ gN;have ku:b=wA.heap.size:=by have:=sZ.sub.2.1 s.mem.ε.length wA.heap.size (by simp[gB]);rw[this]at b1;exact(Option.some.inj b1).symm
   subst ku;have ac2:(L3.state==LoopState.busy)=false:=by
    cases st with
    |ready=>rw[tR.1];rfl
    |busy=>exact absurd rfl vE
    |done j=>cases j<;>(rw[tR.1];rfl)
   let w4:World:=fJ w3 wA.heap.size (.loop {L3 with state:= .exhausted});have A0:(Instr.endLoop wA.heap.size).run P w3= .ok L3.pending w4:=by
    have h1:(getObj wA.heap.size).run P w3= .ok (.loop L3) w3:=by simp only[getObj,Sem.run,b4]
    have h2:∀y,(setObj wA.heap.size y).run P w3= .ok () (fJ w3 wA.heap.size y):=fun y=>by simp only[setObj,Sem.run,b4];rfl
    simp only[Instr.endLoop,Instr.getLoop,Sem.run_bind,h1,Result.andThen_ok,Sem.run_pure,ac2,jI,if_false,h2];rfl
   have jy:∀b',b'≠wA.heap.size->w4.heap[b']?=w3.heap[b']?:=fun b' τ=>by simp only[w4,fJ];rw[JP (Ne.symm τ)]
   have akX:(s.mem.back m).ε.length=s.mem.ε.length:=Kk (by have:=hk.len;simp at this;omega);have abI:=QE hs.mem Nt hk;have Vg:g.sub (g3.cut s.mem.ε.length):=by
    refine⟨fun b o y hy=>sZ.sub.1 b o y hy,fun id b hb=>?_,fun t k y hy=>?_⟩
    ·simp only[Gh.cut];rw[if_pos (hlen id b hb)];exact sZ.sub.2.1 _ _ (Ic.2.1 _ _ hb)
    ·simp only[Gh.cut];rw[if_pos (hs.mem.nu t k y hy)];exact sZ.sub.2.2 _ _ _ hy
   have hm4:a_ (g3.cut s.mem.ε.length) (pY s.mem.ε.length uG) LC (s.mem.back m) w4:=by
    refine abI.bm (Gh.eP _) (fun _ h=>h) (fun _ _ h=>h) (fun id b hb=>⟨rfl,jy b ?_,fun _=>rfl⟩) (fun b o y hy=>?_)
    ·rintro rfl
     have h1:=(Bu hb).1;rw[b2]at h1;cases h1;simp[pY,b2]at hb
    ·have τ:b≠wA.heap.size:=by rintro rfl;exact absurd ((b3 o).symm.trans hy) (by simp)
     rw[qj (jy b τ)];exact Nt.im _ _ _ hy
   have oU:lT base LC gl g own wA .undef (s.mem.back m) undef w4:=by
    refine⟨g3.cut s.mem.ε.length,pY s.mem.ε.length uG,⟨Vg,?_,?_,?_,?_,fun b hb ho=>?_,fun b hb ho=>?_,fun b hb ho o=>?_⟩,hm4,.undef _,⟨fun b o hb=>?_,?_⟩,fun b d hb=>?_,hs.gl.mono Vg⟩
    ·have h1:=sZ.size;have h2:wA.heap.size<=wB.heap.size:=by simp[wB]
     simp only[w4,fJ,Array.size_setIfInBounds];omega
    ·exact sZ.os.trans rfl
    ·exact sZ.tape.trans rfl
    ·exact sZ.output.trans rfl
    ·have τ:b≠wA.heap.size:=by omega
     have Dx:er uH b=none:=by simp only[er,uH,gP,if_neg τ];exact ho
     have Dp:b<wB.heap.size:=by simp[wB];omega
     rw[jy b τ,sZ.bm b Dp Dx];exact ud wA _ hb
    ·have τ:b≠wA.heap.size:=by omega
     have Dx:er uH b=none:=by simp only[er,uH,gP,if_neg τ];exact ho
     have Dp:b<wB.heap.size:=by simp[wB];omega
     exact WJ (sZ.jH b Dp Dx)
    ·have τ:b≠wA.heap.size:=by omega
     have Dx:er uH b=none:=by simp only[er,uH,gP,if_neg τ];exact ho
     have Dp:b<wB.heap.size:=by simp[wB];omega
     exact sZ.im b Dp Dx o
    ·have:=UW.ge b o (Bu hb).1;simpa[w4,fJ]using this
    ·simpa[w4,fJ]using UW.base
    ·obtain⟨_,id,h⟩:=Bu hb;cases h
   obtain⟨g',lb',aE,k1,k2⟩:=zf.after (dst:=none) rfl (Fz zf oU);have ue:=hQ g' lb' aE _ w4 (Ve.trans k1) k2;refine⟨L3.pending,w4,A0,?_⟩;cases st with
   |ready=>
    obtain⟨_,hp⟩:=tR
    rw[Option.isNone_iff_eq_none.1 hp];rw[hex]at ue;exact ue
   |busy=>exact absurd rfl vE
   |done j=>
    cases j with
    |none=>
     obtain⟨_,hp⟩:=tR
     cases DB:L3.pending with
     |none=>rw[DB]at hp;exact hp.elim
     |some c=>
      rw[DB]at hp
      cases c<;>first|exact hp.elim|skip
      rw[hex]at ue;exact wpIn_ret ue
    |some i=>
     obtain⟨_,hp⟩:=tR
     cases DB:L3.pending with
     |none=>rw[DB]at hp;exact hp.elim
     |some c=>
      rw[DB]at hp
      cases c<;>first|exact hp.elim|skip
      dsimp only at hp;subst hp;rw[hex]at ue;exact wpIn_exit ue
 ·cases hx
end
section
variable{F:Fence}{n:Nat}{P:Program}{bf:Nat->Bool}{N:Nat}{gl:Nat->AV}{base:Nat}{LC:eX}{cR:Nat}{ax:cu}
theorem BI{P:Program}{b:Frame}{a:Act}{k:List Item}{cs:List Frame}{w:World}{c:Code}:
  step P (lone (b.atR a (.code (.scope c)::k)) cs w)= .next (lone (b.atR a (.code c:: .inScope c::k)) cs w):=
 step_lone_go (by simp[stepG,stepG.exec,Frame.atR])
theorem ajH{P:Program}{b:Frame}{a:Act}{k:List Item}{cs:List Frame}{w:World}{c:Code}:
  step P (lone (b.atR a (.inScope c::k)) cs w)= .next (lone (b.atR a k) cs w):=
 step_lone_go (by simp[stepG,stepG.exec,Frame.atR])
def noGoto(Q:Exit->Act->World->Prop):Exit->Act->World->Prop
 | .goto _,_,_=>False
 |e,a,w=>Q e a w
theorem ake{F:Fence}{n:Nat}{P:Program}{Q:Exit->Act->World->Prop}{a:Act}{w:World}{c:Code}(h:c.wpIn F n P (noGoto Q) a w):(Code.scope c).wpIn F n P Q a w:=by
 intro b k cs vI hb hr;have h0:(lone (b.atR a (.code (.scope c)::k)) cs w).fenced P F:=fenced_calm hb hr rfl;obtain⟨e,a₁,w₁,hq,AU⟩:=h b (.inScope c::k) cs vI hb hr;cases e with
 |normal=>exact⟨.normal,a₁,w₁,hq,.head h0 BI (StepsIn.trans AU (.one (fenced_calm hb hr rfl) ajH))⟩
 |exit id=>
  have hx:exitTo id (.inScope c::k)=exitTo id k:=by simp[exitTo]
  exact⟨.exit id,a₁,w₁,hq,fun k' hk=> .head h0 BI (AU.1 k' (by rw[hx];exact hk)),
   fun jz hk=>let⟨k₁,h1,h2⟩:=AU.2 jz (by rw[hx];exact hk);⟨k₁,h1,.head h0 BI h2⟩⟩
 |goto l=>exact hq.elim
 |ret=>exact⟨_,a₁,w₁,hq,.of_steps (.one h0 BI) AU⟩
 |panic ch=>exact⟨_,a₁,w₁,hq,.of_steps (.one h0 BI) AU⟩
 |outgrown=>exact⟨_,a₁,w₁,hq,.of_steps (.one h0 BI) AU⟩
theorem Lc(hF:∀f,F.fn f)(hd:F.depth=none)(iQ:nA F P base LC gl ax)(xa:BT P ax)(hK:KC ax)
  (TJ:∀c,LC N (ko P bf N false c) c) (m:Nat) (c:Code):∀(rf:Bool),(rf=true->F.round=none)->∀(g:Gh) (lb:LB) (own:OW) (s:St) (ex:Ex) (s':St) (a:Act) (w:World) (Q:Exit->Act->World->Prop),
  SR gl base N LC cR g lb own s a w->exec gl ax (fN m) (ko P bf N rf c) s=some (ex,s')→
  (∀g' lb' aE a' w',eu g own w g' aE w'->SR gl base N LC cR g' lb' aE s' a' w'->Q ex.AA a' w')->c.wpIn F n P Q a w:=by
 induction c with
 |skip=>
  intro rf ky g lb own s ex s' a w Q hs hx hQ
  cases hx;exact wpIn_skip (hQ _ _ _ _ _ (.refl _ _ _) hs)
 |label l=>
  intro rf ky g lb own s ex s' a w Q hs hx hQ
  cases hx;exact wpIn_label (hQ _ _ _ _ _ (.refl _ _ _) hs)
 |exit id=>
  intro rf ky g lb own s ex s' a w Q hs hx hQ
  cases hx;exact wpIn_exit (hQ _ _ _ _ _ (.refl _ _ _) hs)
 |ret=>
  intro rf ky g lb own s ex s' a w Q hs hx hQ
  cases hx;exact wpIn_ret (hQ _ _ _ _ _ (.refl _ _ _) hs)
 |region id ops draw=>
  intro rf ky g lb own s ex s' a w Q hs hx hQ
  exact aiD hF hd iQ hs hx hQ
 |seq x y Vs xz=>
  intro rf ky g lb own s ex s' a w Q hs hx hQ
  simp only[ko,exec]at hx;refine wpIn_seq ?_;split at hx
  ·rename_i s1 h1;refine Vs rf ky g lb own s .normal s1 a w _ hs h1 fun g1 vT uF a1 w1 k1 k2=>?_;exact xz rf ky g1 vT uF s1 ex s' a1 w1 Q k2 hx fun g2 D2 pX a2 w2 k3 k4=>hQ _ _ _ _ _ (k1.trans k3) k4
  ·rename_i τ;refine Vs rf ky g lb own s ex s' a w _ hs hx fun g1 vT uF a1 w1 k1 k2=>?_;have:=hQ _ _ _ _ _ k1 k2;cases ex with
   |normal=>exact absurd hx (τ _)
   |exit i=>exact this
   |ret=>exact this
 |cond x b c gu ihc=>
  intro rf ky g lb own s ex s' a w Q hs hx hQ
  simp only[ko]at hx;split at hx
  ·rename_i x' gr;simp only[exec]at hx;split at hx
   ·rename_i t ht;have hv:=hs.ev _ _ gr;rw[ht]at hv;have hb:a.eval x= .bool t:=by generalize a.eval x=y at hv;cases hv;rfl
    refine wpIn_cond hb ?_;cases t with
    |true=>exact gu rf ky g lb own s ex s' a w Q hs hx hQ
    |false=>exact ihc rf ky g lb own s ex s' a w Q hs hx hQ
   ·cases hx
  ·cases hx
 |block id b ih=>
  intro rf ky g lb own s ex s' a w Q hs hx hQ
  simp only[ko,exec]at hx;refine wpIn_block ?_;split at hx
  ·rename_i i s1 h1;refine ih rf ky g lb own s (.exit i) s1 a w _ hs h1 fun g1 vT uF a1 w1 k1 k2=>?_;simp only[Ex.AA,Exit.inBlock];split at hx
   ·rename_i hi;rw[if_pos hi];cases hx;exact hQ _ _ _ _ _ k1 k2
   ·rename_i hi;rw[if_neg hi];cases hx;exact hQ _ _ _ _ _ k1 k2
  ·rename_i τ;refine ih rf ky g lb own s ex s' a w _ hs hx fun g1 vT uF a1 w1 k1 k2=>?_;have:=hQ _ _ _ _ _ k1 k2;cases ex with
   |normal=>exact this
   |exit i=>exact absurd hx (τ _ _)
   |ret=>exact this
 |loop b ih=>
  intro rf ky g lb own s ex s' a w Q hs hx hQ
  simp only[ko,exec]at hx;refine wpIn_loop_rounds m ?_;have key:∀(k:Nat) (g:Gh) (lb:LB) (own:OW) (s:St) (a:Act) (w:World),SR gl base N LC cR g lb own s a w->fN k (exec gl ax (fN m) (ko P bf N rf b)) s=some (ex,s')→
    (∀g' lb' aE a' w',eu g own w g' aE w'->SR gl base N LC cR g' lb' aE s' a' w'->Q ex.AA a' w')->Code.roundsIn F n P b Q k a w:=by
   intro k;induction k with
   |zero=>intro g lb own s a w _ hx _;simp[fN]at hx
   |succ k DV=>
    intro g lb own s a w hs hx hQ
    simp only[fN]at hx;rw[roundsIn_succ];split at hx
    ·rename_i s1 h1;refine ih rf ky g lb own s .normal s1 a w _ hs h1 fun g1 vT uF a1 w1 k1 k2=>?_;exact DV g1 vT uF s1 a1 w1 k2 hx fun g2 D2 pX a2 w2 k3 k4=>hQ _ _ _ _ _ (k1.trans k3) k4
    ·rename_i τ;refine ih rf ky g lb own s ex s' a w _ hs hx fun g1 vT uF a1 w1 k1 k2=>?_;have:=hQ _ _ _ _ _ k1 k2;cases ex with
     |normal=>exact absurd hx (τ _)
     |exit i=>exact this
     |ret=>exact this
  exact key m g lb own s a w hs hx hQ
 |rangeFunc f ps fO body dK gu=>
  intro rf ky g lb own s ex s' a w Q hs hx hQ
  simp only[ko]at hx;split at hx
  ·rename_i f' nT;split at hx
   ·rename_i hc;simp only[dW,dS,decide_eq_true_eq]at hc;exact aiM hF hd (ky hc.1) iQ xa hK hs nT (TJ fO) (TJ body) hc.2 hx hQ
   ·cases hx
  ·cases hx
 |scope b ih=>
  intro rf ky g lb own s ex s' a w Q hs hx hQ
  simp only[ko]at hx;refine ake (ih rf ky g lb own s ex s' a w _ hs hx fun g1 vT uF a1 w1 k1 k2=>?_);have:=hQ _ _ _ _ _ k1 k2;cases ex<;>exact this
 |goto l=>intro rf ky g lb own s ex s' a w Q hs hx hQ;cases hx
 |refuse why=>intro rf ky g lb own s ex s' a w Q hs hx hQ;cases hx
end
section
variable(P:Program)
def KI:ResultVar->Option RV
 | .tmp t=>some (.tmp t)
 | .cell a t=>match wi P t,kX P t with
  |some ag,some n=>some (.cell a ag n)
  |_,_=>none
def yn:List ResultVar->Option (List RV)
 |[]=>some []
 |r::l=>match KI P r,yn l with
  |some a,some m=>some (a::m)
  |_,_=>none
end
section
variable{F:Fence}{n:Nat}{P:Program}{bf:Nat->Bool}{N:Nat}{gl:Nat->AV}{base:Nat}{LC:eX}{cR:Nat}{ax:cu}
variable{g:Gh}{lb:LB}{own:OW}{s:St}{a:Act}{w:World}
theorem aiH(hs:SR gl base N LC cR g lb own s a w){rv:ResultVar}{r:RV}(hc:KI P rv=some r){v:AV}(hv:r.get s=some v):
  ∃x,((match rv with| .tmp t=>pure (a.tmps.getD t undef)| .cell p t=>do loadVar t (<-asAddr (a.tmps.getD p undef)):Sem Value).run P w= .ok x w)/\VR g lb v x:=by
 cases rv with
 |tmp t=>
  cases hc
  simp only[RV.get,bc]at hv;subst hv;exact⟨_,rfl,hs.env t⟩
 |cell p t=>
  simp only[KI]at hc
  split at hc
  ·rename_i ag m lJ hm;cases hc;simp only[RV.get]at hv;split at hv
   ·rename_i cs n9;obtain⟨b,off,vs,e1,e2,e3,e4,e5,e6⟩:=Xn hs.mem hs.loc (hs.env p) n9;obtain⟨s1,s2,s3⟩:=pa (P:=P) (w:=w) hm;have C2:=JF (w:=w) lJ;obtain⟨k1,k2⟩:=Kf (a:=vs.toArray) (g:=g) (lb:=lb) ⟨by simp;omega,fun i hi ab=>e5 i hi (by simpa using ab)⟩ (by simpa using e6) hv;have lZ:∀j v,vs[j]?=some v->w.cell? ((⟨b,off,none⟩:Addr).add j)=some v:=fun j v hj=>by rw[Addr.add_mid];exact e4 j v hj
    cases ag with
    |true=>
     refine⟨_,?_,k1 rfl⟩
     have A9:=run_loadCells_list (P:=P) w ⟨b,off,none⟩ vs lZ;simp only[e1,asAddr,Sem.run_bind,Sem.run_pure,Result.andThen_ok,loadVar,C2,if_true,s1];rw[<-e2];simp only[A9,Result.andThen_ok]
    |false=>
     obtain⟨z,hz,xw⟩:=k2 rfl
     have Bf:vs=[z]:=by simpa using hz
     subst Bf;have h0:w.cell? ⟨b,off,none⟩=some z:=by simpa using e4 0 z (by simp)
     refine⟨z,?_,xw⟩;simp only[e1,asAddr,Sem.run_bind,Sem.run_pure,Result.andThen_ok,loadVar,C2,jI,if_false,run_load,h0]
   ·cases hv
  ·cases hc
theorem aiI(hs:SR gl base N LC cR g lb own s a w):∀(Ey:List ResultVar) (rs:List RV) (l:List AV),yn P Ey=some rs->cH s rs=some l→
  ∃xs,(Ey.mapM (fun rv=>(match rv with| .tmp t=>pure (a.tmps.getD t undef)| .cell p t=>do loadVar t (<-asAddr (a.tmps.getD p undef)):Sem Value))).run P w= .ok xs w/\PW (VR g lb) l xs:=by
 intro Ey;induction Ey with
 |nil=>
  intro rs l h1 h2
  cases h1;cases h2;exact⟨[],rfl,PW.nil⟩
 |cons rv Ey ih=>
  intro rs l h1 h2
  simp only[yn]at h1;split at h1
  ·rename_i r m k1 k2;cases h1;simp only[cH]at h2;split at h2
   ·rename_i v hv;simp only[bE]at h2;obtain⟨l',h2,rfl⟩:=h2;obtain⟨x,q1,q2⟩:=aiH hs k1 hv;obtain⟨xs,q3,q4⟩:=ih m l' k2 h2;refine⟨x::xs,?_,PW.cons q2 q4⟩;simp only[List.mapM_cons,Sem.run_bind,q1,Result.andThen_ok,q3,Sem.run_pure]
   ·cases h2
  ·cases h1
theorem aiL(hs:SR gl base N LC cR g lb own s a w){fn:Func}{rs:List RV}(hc:yn P fn.results.toList=some rs){l:List AV}(hl:cH s rs=some l):
  ∃x,(results fn a.tmps).run P w= .ok x w/\VR g lb (cJ l) x:=by
 obtain⟨xs,h1,h2⟩:=aiI hs _ _ _ hc hl;have hr:(results fn a.tmps).run P w= .ok (if h:xs.toArray.size=1 then xs.toArray[0]else .tuple xs.toArray) w:=by
  unfold results;rw[Array.mapM_eq_mapM_toList];simp only[Sem.run_bind,map_eq_pure_bind]
  erw [h1]
  rfl
 refine⟨_,hr,?_⟩
 match l,xs,h2 with
 |[],[],h2=>exact .aU _ [] _ rfl (fun i hi=>by simp at hi)
 |[v],[x],h2=>exact h2.2 0 (by simp) (by simp)
 |v::v'::l,x::x'::xs,h2=>
  have:¬(x::x'::xs).toArray.size=1:=by simp
  rw[dif_neg this];exact .aU _ _ _ (by simpa using h2.1.symm) (fun i hi ab=>by have:=h2.2 i hi (by simpa using ab);simpa using this)
 |[],_::_,h2=>exact absurd h2.1 (by simp)
 |[_],[],h2=>exact absurd h2.1 (by simp)
 |[_],_::_::_,h2=>exact absurd h2.1 (by simp)
 |_::_::_,[],h2=>exact absurd h2.1 (by simp)
 |_::_::_,[_],h2=>exact absurd h2.1 (by simp)
theorem ajT{g0:Gh}{I3:OW}{w0:World}(he:w0.heap.size<=cR){fn:Func}{T:Array Value}{R:Ending->World->Prop}:∀(ms:List Nat) (w:World),ms.Nodup->(∀r∈ms,cR<=r/\r<w.heap.size/\own r=none/\w.heap[r]?=some (.deferred (some [])))->eu g0 I3 w0 g own w→
   SR gl base N LC cR g lb own s {tmps:=T,defers:=ms.map zr} w→
   (∀w',eu g0 I3 w0 g own w'->SR gl base N LC cR g lb own s {tmps:=T,defers:=[]} w'->LeavesInM F n P fn T R [] .returning w')->LeavesInM F n P fn T R (ms.map zr) .returning w:=by
 intro ms;induction ms with
 |nil=>intro w _ _ h1 h2 hK;exact hK w h1 h2
 |cons r ms ih=>
  intro w y_ mG h1 h2 hK
  obtain⟨k1,k2,k3,k4⟩:=mG r (by simp);obtain⟨US,y_⟩:=x_.1 y_;have jy:∀b',b'≠r->(fJ w r (.deferred none)).heap[b']?=w.heap[b']?:=fun b' τ=>by simp only[fJ];rw[JP (Ne.symm τ)]
  have aJ:(fJ w r (.deferred none)).heap.size=w.heap.size:=by simp[fJ]
  refine⟨by simp,.inl ⟨r,fJ w r (.deferred none),rfl,?_,ih _ y_ (fun r' jz=>?_) ?_ ?_ hK⟩⟩
  ·have q1:(getObj r).run P w= .ok (.deferred (some [])) w:=by simp only[getObj,Sem.run,k4]
   have q2:∀y,(setObj r y).run P w= .ok () (fJ w r y):=fun y=>by simp only[setObj,Sem.run,k4];rfl
   simp only[Instr.takeDeferred,Sem.run_bind,q1,Result.andThen_ok,q2,Sem.run_pure]
  ·obtain⟨j1,j2,j3,j4⟩:=mG r' (x9 _ jz);exact⟨j1,by rw[aJ];exact j2,j3,by rw[jy r' (by rintro rfl;exact US jz)];exact j4⟩
  ·exact⟨h1.sub,by rw[aJ];exact h1.size,h1.os,h1.tape,h1.output,fun b hb ho=>by rw[jy b (by omega)];exact h1.bm b hb ho,h1.jH,h1.im⟩
  ·have gG:∀b o,own b=some o->b≠r:=fun b o hb=>by rintro rfl;rw[k3]at hb;cases hb
   refine⟨h2.env,h2.gl,h2.size,?_,h2.mem.bm (Gh.eP _) (fun _ h=>h) (fun _ _ h=>h) (fun id b hb=>⟨rfl,jy b (gG b _ hb),fun _=>rfl⟩) (fun b o y hy=>?_),
    h2.loc.bm (Gh.eP _) (fun d b hb=>⟨rfl,jy b (gG b _ hb),fun _=>rfl⟩),⟨fun b o hb=>by rw[aJ];exact h2.own.ge b o hb,by rw[aJ];exact h2.own.base⟩⟩
   ·refine⟨by rw[aJ];exact h2.defers.1,ms,y_,rfl,fun r' jz=>?_⟩;obtain⟨j1,j2,j3,j4⟩:=mG r' (x9 _ jz);exact⟨j1,by rw[aJ];exact j2,j3,by rw[jy r' (by rintro rfl;exact US jz)];exact j4⟩
   ·have τ:b≠r:=by
     rintro rfl
     have:=h2.mem.im _ _ _ hy;simp[sx,k4]at this
    rw[qj (jy b τ)];exact h2.mem.im _ _ _ hy
end
def Gh.fr(g:Gh)(own:OW)(w:World)(n:Nat):Gh:= {
 im b o:=match own b with
  |some (.m id)=>if n<=id then w.cell? ⟨b,o,none⟩else g.im b o
  |_=>g.im b o
 mb:=(g.cut n).mb
 rows:=(g.cut n).rows}
theorem abb{g:Gh}{own:OW}{LC:eX}{mem:Mem}{w:World}(hm:a_ g own LC mem w)(n:Nat)(b o:Nat)(x:Value)(h:(g.fr own w n).im b o=some x):w.cell? ⟨b,o,none⟩=some x:=by
 simp only[Gh.fr]at h;split at h
 ·split at h
  ·exact h
  ·exact hm.im _ _ _ h
 ·exact hm.im _ _ _ h
theorem yB{g:Gh}{own:OW}{LC:eX}{mem:Mem}{w:World}(hm:a_ g own LC mem w)(n:Nat):(g.cut n).sub (g.fr own w n):=by
 refine⟨fun b o x hx=>?_,fun _ _ h=>h,fun _ _ _ h=>h⟩;have hx:g.im b o=some x:=hx;simp only[Gh.fr];split
 ·split
  ·exact hm.im _ _ _ hx
  ·exact hx
 ·exact hx
theorem Z3{n:Nat}{hp:Nat->Nat->AV}{hs:Nat->Nat->Nat->Nat->AV}(h1:∀id off,(hp id off).cells=[hp id off])(h2:∀kd id off m,(hs kd id off m).cells=[hs kd id off m])(v:AV):
  (fE n hp hs v).cells=v.cells.map (fE n hp hs):=by
 cases v with
 |μ id off=>
  by_cases h:id<n
  ·simp[fE,AV.cells,h]
  ·have e:fE n hp hs (.μ id off)=hp id off:=by simp[fE,h]
   rw[e,h1,<-e];rfl
 |sl kd id off m cap=>
  by_cases h:id<n
  ·simp[fE,AV.cells,h]
  ·have e:fE n hp hs (.sl kd id off m cap)=hs kd id off m:=by simp[fE,h]
   rw[e,h2,<-e];rfl
 |fn f a b=>simp only[fE,AV.cells,aA,aP];by_cases h:Fn.below n f=true<;>simp[h]
 |map id=>simp only[fE,AV.cells,aA,aP];by_cases h:id<n<;>simp[h]
 |_=>simp[fE,AV.cells,qm]
section
variable{g:Gh}{own:OW}{LC:eX}{mem:Mem}{w:World}
theorem QI(hm:a_ g own LC mem w){id b n:Nat}{l:List AV}(hb:g.mb id=some b)(hl:mem.ε[id]?=some (.cells l))(hn:¬id<n):
  ∃a:Array Value,l.length<=a.size/\(∀i (h:i<a.size),(g.fr own w n).im b i=some a[i]/\a[i].oneCell'=true)/\∀i (h:i<l.length) (h':i<a.size),VR g bV l[i] a[i]:=by
 obtain⟨b',k1,k2,k3,a,e,k4,k5,k6,k7⟩:=hm.blk id _ hl;rw[hb]at k1;cases k1;refine⟨a,k5,fun i h=>⟨?_,k7 i h⟩,fun i h h'=>k6 i h h'⟩;simp only[Gh.fr,k2];rw[if_pos (by omega)];simp[sx,k4,h]
theorem F4(bs:List θ)(n k:Nat)(v:AV):(aK bs n k v).cells=v.cells.map (aK bs n k):=by
 cases k with
 |zero=>exact FC n false v
 |succ k=>
  refine Z3 (fun id off=>?_) (fun kd id off m=>?_) v
  ·split<;>rfl
  ·(repeat' split)<;>rfl
theorem abh(hm:a_ g own LC mem w)(n:Nat):∀(k:Nat) {lb lb':LB} {v:AV} {x:Value},VR g lb v x->VR (g.fr own w n) lb' (aK mem.ε n k v) x:=by
 intro k;induction k with
 |zero=>intro lb lb' v x h;exact(h.exp n false).sub (yB hm n)
 |succ k DV=>
  intro lb lb' v x h
  induction h generalizing lb' with
  |undef=>exact .undef _
  |cU _ x h=>exact .cU _ x h
  |int _ k n=>exact .int _ k n
  |bool _ b=>exact .bool _ b
  |str _ b s h=>exact .str _ b s h
  |iU=>exact .iU _
  |aj _ d v off b h=>exact .cU _ _ rfl
  |μ _ id off b h=>
   simp only[aK,fE]
   split
   ·rename_i hi;exact .μ _ id off b (by simp only[Gh.fr,Gh.cut,hi,if_true];exact h)
   ·rename_i hi;split
    ·rename_i l hl;obtain⟨a,h1,h2,h3⟩:=QI hm h hl hi;refine .ref _ _ b off (fun i=>a.getD (off+i) undef) (fun i ab=>?_) (fun i ab=>?_)
     ·simp at ab;have χ:off+i<a.size:=by omega
      have:=h2 (off+i) χ;simpa[ou,χ]using this
     ·simp at ab;have χ:off+i<a.size:=by omega
      have:=DV (lb':=bV) (h3 (off+i) (by omega) χ);simpa[ou,χ]using this
    ·exact .cU _ _ rfl
  |ref _ l b o xs cC _ ih=>
   simp only[aK,fE,qm]
   refine .ref _ _ b o xs (fun i hi=>?_) (fun i hi=>?_)
   ·have:=cC i (by simpa using hi);exact⟨(yB hm n).1 _ _ _ this.1,this.2⟩
   ·simp only[iY];exact ih i (by simpa using hi)
  |iS=>
   simp only[aK,fE,qm,aP,ξ.exp]
   exact .iS _
  |sl _ kd id off m cap gq b hc eD h=>
   simp only[aK,fE]
   split
   ·rename_i hi;exact .sl _ kd id off m cap gq b hc eD (by simp only[Gh.fr,Gh.cut,hi,if_true];exact h)
   ·rename_i hi;split
    ·rename_i l hl;obtain⟨a,h1,h2,h3⟩:=QI hm h hl hi;split
     ·rename_i sP;split
      ·rename_i oQ;subst oQ;have ab2:off+m<=l.length:=by have e0:al3 0 1=1:=rfl;rw[e0]at sP;omega
       split
       ·rename_i rP;simp only[dS]at rP;have uc:∀v,v∈(l.drop off).take m->(aK mem.ε n k v).cells=[aK mem.ε n k v]:=fun v hv=>by rw[F4];have:=rP v hv;cases v<;>simp_all [AV.cells,AV.one]
        refine .list _ .any _ b off 1 m gq (fun i _=>a.getD (off+i) undef) (by simp;omega) (by omega) trivial (fun e he=>?_) (fun i ab j hj=>?_) (fun i ab j hj=>?_)
        ·obtain⟨v,hv,rfl⟩:=eT.1 he;rw[uc v hv];rfl
        ·obtain rfl:j=0:=by omega
         have χ:off+i<a.size:=by omega
         have:=h2 (off+i) χ;simpa[ou,χ]using this
        ·simp at ab;have χ:off+i<a.size:=by omega
         have Γ:l[off+i]'(by omega)∈(l.drop off).take m:=by rw[pj];exact⟨i,by simp;omega,by simp⟩
         have e1:((((l.drop off).take m).map (aK mem.ε n k))[i]'(by simp;omega))=aK mem.ε n k (l[off+i]'(by omega)):=by simp
         have e2:=uc _ Γ;have Nc:j=0:=by have:=hj;simp only[e1,e2,cE,eI]at this;omega
         subst Nc;have:=DV (lb':=bV) (h3 (off+i) (by omega) χ);simp only[e1,e2,lE];simpa[ou,χ]using this
       ·exact .cU _ _ rfl
      ·rename_i oQ;have jM:al3 kd 1=kd:=al4 (by omega);rw[jM]at sP;have hbound:∀i j,i<m->j<kd->off+(i*kd+j)<l.length:=by intro i j hi hj;have:=DU hi hj;omega
       refine .list _ .any _ b off kd m gq (fun i j=>a.getD (off+(i*kd+j)) undef) (Au _ _ _) (by omega) trivial (fun e he=>?_) (fun i ab j hj=>?_) (fun i ab j hj=>?_)
       ·obtain⟨i,jg,rfl⟩:=pj.1 he;rw[FE];simp only[AV.cells,kE,kZ,cF];rw[Au]at jg;have h5:(i+1)*kd<=m*kd:=mq _ jg;rw[kF]at h5;omega
       ·have χ:off+(i*kd+j)<a.size:=kj (hbound i j ab hj) h1;have:=h2 _ χ;simpa[ou,χ]using this
       ·have jg:i<m:=by rw[Au]at ab;exact ab
        have e0:=FE kd m ((l.drop off).map (aK mem.ε n k)) i ab;have uh:j<kd:=by have:=hj;rw[e0]at this;simp only[AV.cells,kE,kZ,cF]at this;omega
        have χ:off+(i*kd+j)<a.size:=kj (hbound i j jg uh) h1;have:=DV (lb':=bV) (h3 _ (hbound i j jg uh) χ);have e1:(((chunk kd m ((l.drop off).map (aK mem.ε n k)))[i]'ab).cells[j]'hj)=aK mem.ε n k (l[off+(i*kd+j)]'(hbound i j jg uh)):=by simp only[e0,AV.cells,BX,xZ,iY]
        rw[e1];simpa[ou,χ]using this
     ·exact .cU _ _ rfl
    ·exact .cU _ _ rfl
  |iw _ c a cap hc=>
   have he:aK mem.ε n (k+1) (.list c [])= .list (c.exp n false) []:=by simp only[aK,fE,qm,aP]
   rw[he];refine .iw _ _ a cap ?_;rcases hc with rfl|⟨rfl,h⟩<;>exact .inl rfl
  |list _ c l b o sz m cap xs lM dP hc aJ cC _ ih=>
   have he:aK mem.ε n (k+1) (.list c l)= .list (c.exp n false) (l.map (aK mem.ε n (k+1))):=by simp only[aK,fE,qm]
   rw[he];have C_:∀v,(aK mem.ε n (k+1) v).cells=v.cells.map (aK mem.ε n (k+1)):=F4 _ _ _;refine .list _ _ _ b o sz m cap xs (by simpa using lM) dP (RY (yB hm n) (RX hc)) ?_ (fun i hi j hj=>?_) ?_
   ·intro e he;obtain⟨e',qs,rfl⟩:=eT.1 he;rw[C_,cF];exact aJ e' qs
   ·have:=cC i hi j hj;exact⟨(yB hm n).1 _ _ _ this.1,this.2⟩
   ·intro i hi j hj;have ab:i<l.length:=by simpa using hi
    have dJ:j<l[i].cells.length:=by simpa[C_]using hj
    have:=ih i ab j dJ (lb':=bV);simpa[C_]using this
  |agg _ l a hs h1 _ ih=>
   simp only[aK,fE,qm]
   refine .agg _ _ a (by simpa using hs) h1 fun i hi ab=>?_;simp only[iY];exact ih i (by simpa using hi) ab
  |aU _ l a hs _ ih=>
   simp only[aK,fE,qm]
   refine .aU _ _ a (by simpa using hs) fun i hi ab=>?_;simp only[iY];exact ih i (by simpa using hi) ab
  |fn _ f f' l m' a b hs ht hy _ _ qI oV=>
   simp only[aK,fE,qm]
   split
   ·rename_i hf;refine .fn _ f f' _ _ a b (by simpa using hs) (by simpa using ht) ?_ (fun i hi ab=>?_) (fun i hi ab=>?_)
    ·cases f<;>cases f'<;>first|exact hy|exact hy.elim|skip
     simp only[Fn.below,decide_eq_true_eq]at hf;simp only[su,Gh.fr,Gh.cut,hf,if_true];exact hy
    ·simp only[iY];exact qI i (by simpa using hi) ab
    ·simp only[iY];exact oV i (by simpa using hi) ab
   ·exact .cU _ _ rfl
  |fV=>exact .fV _
  |iface _ t v x _ ih=>exact .iface _ t _ x ih
  |gx=>exact .gx _
  |map _ id b h=>
   simp only[aK,fE]
   split
   ·rename_i hi;exact .map _ id b (by simp only[Gh.fr,Gh.cut,hi,if_true];exact h)
   ·exact .cU _ _ rfl
  |gY=>exact .gY _
theorem abc{n:Nat}{m':Mem}(hm:a_ g own LC mem w)(h:a_ (g.cut n) (pY n own) LC m' w):a_ (g.fr own w n) (pY n own) LC m' w:=by
 refine h.bm (yB hm n) (fun _ h=>h) (fun _ _ h=>h) (fun id b hb=>⟨rfl,rfl,fun o=>?_⟩) (fun b o x hx=>abb hm n b o x hx);have h1:=(Bu hb).1;have h2:id<n:=by
  simp only[pY,h1]at hb;split at hb
  ·assumption
  ·cases hb
 simp only[Gh.fr,h1];rw[if_neg (by omega)];rfl
end
def P9(F:Fence)(n:Nat)(P:Program)(run:Result Next)(w:World)(R:Value->World->Prop):Prop:=
 (∃(f:FuncId) (as:Array Value),run= .ok (.enter f as) w/\CallsIn F n P f as w fun e w'=>∃x,e= .returned x/\R x w')∨
 (∃x w',run= .ok (.value x) w'/\R x w')∨
 (∃(l:Nat) (f:FuncId) (tmps:Array Value) (assign body:Code),run= .ok (.round l f tmps assign body) w∧
  RoundIn F n P l f tmps assign body w fun e w'=>∃x,e= .returned x/\R x w')
def mr(F:Fence)(P:Program)(base:Nat)(LC:eX)(gl:Nat->AV)(f:FuncId)(p:Prim):Prop:=
 ∀(n:Nat) (g:Gh) (own:OW) (mem:Mem) (w:World) (args:List AV) (r:AV) (m':Mem) (bN:Array Value),
  a_ g own LC mem w->bT base own w->mP g gl->PW (VR g bV) args bN.toList->p args mem=some (r,m')→
  P9 F n P ((callFunc f bN).run P w) w (lT base LC gl g own w r m')
def mn(P:Program):eX:=fun N a c=>∃bf,a=ko P bf N false c
structure aO (P:Program) (f:FuncId) (g:AF):Prop where
 ex:∃fn c bf,P.funcs[f]?=some fn/\fn.body=some c/\(fn.name== "runtime.NumGoroutine")=false/\g.code=ko P bf fn.ntmps true c/\yn P fn.results.toList=some g.results
structure EY (F:Fence) (P:Program) (base:Nat) (C:iK):Prop where
 fs:∀f g,C.fs f=some g->aO P f g
 alts:∀f g,C.alts f=some g->aO P f g
 iX:∀f p,C.iX f=some p->mr F P base (mn P) C.gl f p
 Eh:∀f p,C.iX f=some p->∀args m r m',p args m=some (r,m')->KM m m'
 Pl:∀f p,C.iX f=some p->(∃fn,P.funcs[f]?=some fn/\fn.body.isNone=false/\(fn.name== "runtime.NumGoroutine")=false)∨
  ∀first cap l mem,p ((first++[.fn (.yield l) [] []]++cap).map (exp mem.ε.length (C.bm f))) mem=none
section
variable{F:Fence}{n:Nat}{P:Program}{bf:Nat->Bool}{N:Nat}{gl:Nat->AV}{base:Nat}{LC:eX}{cR:Nat}{ax:cu}
variable{g:Gh}{lb:LB}{own:OW}{s:St}{a:Act}{w:World}
theorem Lh{C:iK}(hC:EY F P base C):∀k,BT P (cv C k):=by
 intro k;cases k with
 |zero=>intro f first cap l mem r h;simp[cv]at h
 |succ k=>
  intro f first cap l mem r h
  simp only[cv,body]at h;split at h
  ·rename_i p hp;rcases hC.Pl f p hp with h1|h1
   ·exact h1
   ·rw[h1]at h;cases h
  ·split at h
   ·rename_i g hg;obtain⟨fn,c,bf,h1,h2,h3,h4,h5⟩:=(hC.fs f g hg).ex;exact⟨fn,h1,by simp[h2],h3⟩
   ·cases h
theorem v7{own:OW}{b id:Nat}(h:own b=some (.m id)):er own b=some (.m id):=by simp[er,h]
theorem WK{own:OW}{b:Nat}(h:own b=none):er own b=none:=by simp[er,h]
theorem a_.er{mem:Mem}(h:a_ g own LC mem w):a_ g (er own) LC mem w:=
 h.bm g.eP (fun _ h=>h) (fun _ _ h=>h) (fun id b hb=>⟨by rw[v7 hb,hb],rfl,fun _=>rfl⟩) h.im
theorem a_.EP{mem:Mem}(h:a_ g own LC mem w)(t:List Nat):a_ g own LC {ε:=mem.ε,ζ:=t} w:=⟨h.ju,h.nu,h.blk,h.im⟩
theorem bT.er(h:bT base own w):bT base (er own) w:=⟨fun b o hb=>h.ge b o (uI hb).1,h.base⟩
theorem abn(args:Array Value)(k t:Nat):(args++al8 k undef).getD t undef=args.getD t undef:=by
 simp only[ou,Array.getElem?_append];split
 ·rfl
 ·rename_i h;rw[al7 (xs:=args) (by omega)];by_cases h2:t-args.size<k
  ·simp[h2]
  ·simp[h2]
theorem abp(l:List AV)(t:Nat):aI l t=(l[t]?).getD .undef:=by
 induction l generalizing t with
 |nil=>simp[aI]
 |cons a l ih=>cases t with
  |zero=>rfl
  |succ t=>simp[aI,ih]
theorem aaP{args:List AV}{bN:Array Value}(h:PW (VR g lb) args bN.toList)(k t:Nat):VR g lb (aI args t) ((bN++al8 k undef).getD t undef):=by
 rw[abn,abp,ou];rcases cX t args.length with χ|du
 ·have eO:t<bN.size:=by have:=h.1;simp at this;omega
  have:=h.2 t χ (by simpa using eO);simpa[χ,eO]using this
 ·have yS:bN.size<=t:=by have:=h.1;simp at this;omega
  rw[hU du,al7 yS];exact .undef _
theorem S7(hF:∀f,F.fn f)(hd:F.depth=none)(vI:F.round=none)(iQ:nA F P base (mn P) gl ax)(xa:BT P ax)(hK:KC ax){m:Nat}
  {f:FuncId} {fn:Func} {c:Code} (MQ:P.funcs[f]?=some fn) (MR:fn.body=some c) {gf:AF} (hf4:gf.code=ko P bf fn.ntmps true c) (hf5:yn P fn.results.toList=some gf.results)
  {mem:Mem} (hm:a_ g own (mn P) mem w) (ho:bT base own w) (eE:mP g gl) {args:List AV} {bN:Array Value} (iG:PW (VR g bV) args bN.toList) {bm:Bool} {r:AV} {m':Mem}
  (hx:fin gf bm mem (exec gl ax (fN m) gf.code {env:=args,loc:=[],mem:= {ε:=mem.ε,ζ:=[]}})=some (r,m')):
  CallsIn F n P f bN w fun e w'=>∃x,e= .returned x/\lT base (mn P) gl g own w r m' x w':=by
 generalize hex:exec gl ax (fN m) gf.code _=y at hx;cases y with
 |none=>simp[fin]at hx
 |some y=>
 obtain⟨ex,s'⟩:=y
 have hKM:=yy hK (Fb m) _ _ _ _ hex;rw[hf4]at hex;have kO:SR gl base fn.ntmps (mn P) w.heap.size g bV (er own) {env:=args,loc:=[],mem:= {ε:=mem.ε,ζ:=[]}}
   {tmps:=bN++al8 (fn.ntmps-bN.size) undef,defers:=[]} w:=by
  refine⟨fun t=>aaP iG _ t,eE,by simp;omega,Marks.nil (bA _),hm.er.EP _,⟨fun d v l h=>(by cases h),fun d v s p h=>(by cases h),fun d v b h=>(by cases h)⟩,ho.er⟩
 refine callsIn_of_wp_marks MQ MR (hF f) ?_ vI;refine Lc hF hd iQ xa hK (fun c=>⟨bf,rfl⟩) m c true (fun _=>vI) g bV (er own) _ ex s' _ w _ kO hex fun g' lb' aE a' w' h1 h2=>?_;have m_:(match cH s' gf.results with
   |some l=>if bm then some (exp s'.mem.ε.length true (cJ l),({ε:=s'.mem.ε,ζ:=mem.ζ++s'.mem.ζ}:Mem))
    else some (aK s'.mem.ε mem.ε.length 8 (cJ l),mem.back s'.mem)
   |none=>none)=some (r,m')->LeavesInM F n P fn a'.tmps (fun e w'=>∃x,e=Ending.returned x/\lT base (mn P) gl g own w r m' x w') a'.defers .returning w':=by
  intro hx;obtain⟨h0,ms,y_,Un,mG⟩:=h2.defers;have lX:SR gl base fn.ntmps (mn P) w.heap.size g' lb' aE s' {tmps:=a'.tmps,defers:=ms.map zr} w':=by rw[<-Un];exact h2
  rw[Un];refine ajT (bA _) ms w' y_ mG h1 lX fun w2 k1 k2=>?_;split at hx
  ·rename_i l hl;obtain⟨x,q1,q2⟩:=aiL k2 hf5 hl;refine⟨x,q1,x,rfl,?_⟩;split at hx
   ·simp only[bc,az]at hx;obtain⟨rfl,rfl⟩:=hx;refine⟨g',er aE,⟨k1.sub,k1.size,k1.os,k1.tape,k1.output,k1.bm,fun b hb h=>WK (k1.jH b hb h),k1.im⟩,k2.mem.er.EP _,(q2.exp _ _).sub (g'.FF _),k2.own.er,fun b d hb=>?_,k2.gl⟩;obtain⟨_,id,h⟩:=uI hb;cases h
   ·simp only[bc,az]at hx;obtain⟨rfl,rfl⟩:=hx;have hb:=QE hm (extra:=[]) k2.mem (by rw[List.append_nil];exact hKM);have di:g.sub (g'.cut mem.ε.length):=by
     refine⟨fun b o y hy=>k1.sub.1 b o y hy,fun id b hb=>?_,fun t k y hy=>?_⟩
     ·simp only[Gh.cut];rw[if_pos (hm.ju id b hb)];exact k1.sub.2.1 _ _ hb
     ·simp only[Gh.cut];rw[if_pos (hm.nu t k y hy)];exact k1.sub.2.2 _ _ _ hy
    refine⟨g'.fr aE w2 mem.ε.length,pY mem.ε.length aE,⟨Gh.BL di (yB k2.mem _),k1.size,k1.os,k1.tape,k1.output,k1.bm,fun b hb h=>WJ (k1.jH b hb h),fun b hb h o=>?_⟩,abc k2.mem hb,abh k2.mem _ _ q2,
     ⟨fun b o hb=>k2.own.ge b o (Bu hb).1,k2.own.base⟩,fun b d hb=>?_,eE.mono (Gh.BL di (yB k2.mem _))⟩
    ·have hu:=k1.jH b hb h;have:(g'.fr aE w2 mem.ε.length).im b o=g'.im b o:=by simp only[Gh.fr,hu]
     rw[this];exact k1.im b hb h o
    obtain⟨_,id,h⟩:=Bu hb;cases h
  ·cases hx
 cases ex with
 |exit i=>simp[fin]at hx
 |normal=>exact m_ hx
 |ret=>exact m_ hx
end
section
variable{F:Fence}{n:Nat}{P:Program}{bf:Nat->Bool}{N:Nat}{gl:Nat->AV}{base:Nat}{LC:eX}{cR:Nat}{ax:cu}
variable{g:Gh}{lb:LB}{own:OW}{s:St}{a:Act}{w:World}
theorem OP{m:Mem}{l:Nat}{st:LS}(h:m.ls l=some st):∃e p q c,m.ε[l]?=some (.loop e p q c st):=by
 unfold Mem.ls at h;split at h
 ·rename_i e p q c aL he;cases h;exact⟨e,p,q,c,he⟩
 ·cases h
theorem XI(hs:SR gl base N LC cR g lb own s a w){l b:Nat}(hb:g.mb l=some b){om:LS}(nZ:s.mem.ls l=some om){st:LS}{L L':Loop}(hL:w.heap[b]?=some (.loop L))
  (h1:L'.tmps=L.tmps) (h2:L'.params=L.params) (h3:L'.assign=L.assign) (h4:L'.body=L.body) (Ω:Qa st L'):
  ∃g' lb' aE,eu g own w g' aE (fJ w b (.loop L'))/\SR gl base N LC cR g' lb' aE {s with mem:=s.mem.kV l st} a (fJ w b (.loop L')):=by
 obtain⟨e,p,q,c,gN⟩:=OP nZ;obtain⟨b',b1,b2,b3,L2,N2,b4,b5,b6,b7,b8,b9,Am,tR,Cf⟩:=hs.mem.blk l _ gN;rw[hb]at b1;cases b1;rw[hL]at b4;cases b4;have hid:l<s.mem.ε.length:=(fu.1 gN).1;have hp:=ED (x:= .loop L') (blk:= .loop e p q c st) hs.mem hs.loc hs.own b2 hid b3
  ⟨b,hb,b2,b3,L',N2,BH hL _,by rw[h1];exact b5,by rw[h2];exact b6,by rw[h1];exact b7,b8,by rw[h3];exact b9,by rw[h4];exact Am,Ω,Cf⟩
 obtain⟨g',lb',aE,k1,k2⟩:=hs.after (dst:=none) rfl hp;refine⟨g',lb',aE,k1,?_⟩;have:s.mem.kV l st=s.mem.put l (.loop e p q c st) true:=by simp only[Mem.kV,gN,Mem.put,if_true]
 rw[this];exact k2
theorem Y_(hs:SR gl base N LC cR g lb own s a w){l b:Nat}(hb:g.mb l=some b)(nZ:s.mem.ls l=some .ready):
  ∃w',(Instr.beginRound b).run P w= .ok () w'/\∃g' lb' aE,eu g own w g' aE w'/\SR gl base N LC cR g' lb' aE {s with mem:=s.mem.kV l .busy} a w':=by
 obtain⟨e,p,q,c,gN⟩:=OP nZ;obtain⟨b',b1,b2,b3,L,N2,b4,b5,b6,b7,b8,b9,Am,tR,Cf⟩:=hs.mem.blk l _ gN;rw[hb]at b1;cases b1;obtain⟨g',lb',aE,k1,k2⟩:=XI hs hb nZ (st:= .busy) (L':= {L with state:= .busy}) b4 rfl rfl rfl rfl rfl;refine⟨_,?_,g',lb',aE,k1,k2⟩;have q1:(getObj b).run P w= .ok (.loop L) w:=by simp only[getObj,Sem.run,b4]
 have q2:∀y,(setObj b y).run P w= .ok () (fJ w b y):=fun y=>by simp only[setObj,Sem.run,b4];rfl
 simp only[Instr.beginRound,Instr.getLoop,Sem.run_bind,q1,Result.andThen_ok,Sem.run_pure,q2,tR.1]
theorem aaN(hs:SR gl base N LC cR g lb own s a w){l b:Nat}(hb:g.mb l=some b)(nZ:s.mem.ls l=some .busy){jump:Option Code}{st:LS}
  (hj:(jump=none/\st= .ready)\/(jump=some .ret/\st= .done none)\/∃i,jump=some (.exit i)/\st= .done (some i)):
  ∃w',(Instr.endRound b jump).run P w= .ok (.bool jump.isNone) w'/\∃g' lb' aE,eu g own w g' aE w'/\SR gl base N LC cR g' lb' aE {s with mem:=s.mem.kV l st} a w':=by
 obtain⟨e,p,q,c,gN⟩:=OP nZ;obtain⟨b',b1,b2,b3,L,N2,b4,b5,b6,b7,b8,b9,Am,tR,Cf⟩:=hs.mem.blk l _ gN;rw[hb]at b1;cases b1;obtain⟨g',lb',aE,k1,k2⟩:=XI hs hb nZ (st:=st) (L':= {L with state:=if jump.isNone then .ready else .done,pending:=jump}) b4 rfl rfl rfl rfl (by
  rcases hj with⟨rfl,rfl⟩|⟨rfl,rfl⟩|⟨i,rfl,rfl⟩
  ·exact⟨rfl,rfl⟩
  ·exact⟨rfl,trivial⟩
  ·exact⟨rfl,rfl⟩)
 refine⟨_,?_,g',lb',aE,k1,k2⟩;have q1:(getObj b).run P w= .ok (.loop L) w:=by simp only[getObj,Sem.run,b4]
 have q2:∀y,(setObj b y).run P w= .ok () (fJ w b y):=fun y=>by simp only[setObj,Sem.run,b4];rfl
 simp only[Instr.endRound,Instr.getLoop,Sem.run_bind,q1,Result.andThen_ok,Sem.run_pure,q2]
theorem ajA{N:Nat}:∀(ps:List Nat) (args:List AV) (bN:List Value) (env:List AV) (tmps:Array Value),ps.length=args.length->PW (VR g bV) args bN->N<=tmps.size->(∀p∈ps,p<N)→
  (∀t,VR g bV (aI env t) (tmps.getD t undef))→
  (∀t,VR g bV (aI (wb env ps args) t) (((ps.zip bN).foldl (fun tmps (x:Nat×Value)=>tmps.setIfInBounds x.1 x.2) tmps).getD t undef))∧
   N<=((ps.zip bN).foldl (fun tmps (x:Nat×Value)=>tmps.setIfInBounds x.1 x.2) tmps).size:=by
 intro ps;induction ps with
 |nil=>
  intro args bN env tmps hl cM hN hp hv
  cases args with
  |nil=>exact⟨by simpa[wb]using hv,by simpa using hN⟩
  |cons a args=>simp at hl
 |cons p ps ih=>
  intro args bN env tmps hl cM hN hp hv
  cases args with
  |nil=>simp at hl
  |cons x args=>
   cases bN with
   |nil=>exact absurd cM.1 (by simp)
   |cons y bN=>
    simp only[wb,List.zip_cons_cons,List.foldl_cons]
    refine ih args bN (mN env p x) (tmps.setIfInBounds p y) (by simpa using hl) ⟨by simpa using cM.1,fun i hi ab=>by have:=cM.2 (i+1) (by simpa using hi) (by simpa using ab);simpa using this⟩ (by simpa using hN) (fun q hq=>hp q (x9 _ hq)) fun t=>?_;rw[fA,ou,al2];have dQ:=hp p (by simp);by_cases NF:p=t
    ·subst NF;rw[if_pos rfl,if_pos rfl,if_pos (by omega)];exact cM.2 0 (by simp) (by simp)
    ·rw[if_neg NF,if_neg NF,<-ou];exact hv t
theorem nA.inRound(h:nA F P base LC gl ax)(b:Nat):nA (F.inRound b) P base LC gl ax:=
 fun n g lb own mem w fv args r m' fx bN h1 h2 h3 h4 h5 h6=>h n g lb own mem w fv args r m' fx bN h1 h2 h3 h4 h5 h6
theorem aiQ(hF:∀f,F.fn f)(hd:F.depth=none)(iQ:nA F P base (mn P) gl ax)(xa:BT P ax)(hK:KC ax){m:Nat}
  {l b:Nat} (hb:g.mb l=some b) {mem:Mem} (hm:a_ g own (mn P) mem w) (ho:bT base own w) (eE:mP g gl) {args:List AV} {bN:Array Value} (iG:PW (VR g lb) args bN.toList) {r:AV} {m':Mem}
  (hx:round (exec gl ax (fN m)) l args mem=some (r,m')):
  ∃nP tmps fO wD,(Instr.yield b bN).run P w= .ok (.round b nP tmps fO wD) w∧
   RoundIn F n P b nP tmps fO wD w fun e w'=>∃x,e= .returned x/\lT base (mn P) gl g own w r m' x w':=by
 unfold round at hx;split at hx
 ·rename_i env ps fO body st gN;split at hx
  ·rename_i hlen;split at hx
   ·rename_i s1 T_;split at hx
    ·rename_i acm;obtain⟨b',b1,b2,b3,L,N,b4,b5,b6,b7,b8,b9,Am,tR,Cf⟩:=hm.blk l _ gN;rw[hb]at b1;cases b1;obtain⟨aaQ,HH⟩:=b9;obtain⟨aaR,l7⟩:=Am;have aJ:args.length=bN.size:=by simpa using iG.1
     have nS:PW (VR g bV) (args.map (exp mem.ε.length false)) bN.toList:=iG.map _ fun a b h=>(h.exp _ _).sub (g.FF _);obtain⟨v1,v2⟩:=ajA ps (args.map (exp mem.ε.length false)) bN.toList env L.tmps (by simpa using hlen) nS b7 b8 b5;have ab5:(L.params.zip bN).foldl (fun tmps (x:Nat×Value)=>tmps.setIfInBounds x.1 x.2) L.tmps=(ps.zip bN.toList).foldl (fun tmps (x:Nat×Value)=>tmps.setIfInBounds x.1 x.2) L.tmps:=by rw[<-Array.foldl_toList,Array.toList_zip,b6]
     refine⟨L.fn,(ps.zip bN.toList).foldl (fun tmps (x:Nat×Value)=>tmps.setIfInBounds x.1 x.2) L.tmps,L.assign,L.body,?_,roundIn_of_wpIn (hF _) ?_⟩
     ·have q1:(getObj b).run P w= .ok (.loop L) w:=by simp only[getObj,Sem.run,b4]
      have cT:bN.size=L.params.size:=by rw[b6];simp;omega
      simp only[Instr.yield,Instr.getLoop,Sem.run_bind,q1,Result.andThen_ok,Sem.run_pure];rw[if_neg (by simp[cT]),<-ab5];rfl
     ·have kO:SR gl base N (mn P) w.heap.size g bV (er own) {env:=wb env ps (args.map (exp mem.ε.length false)),loc:=[],mem:=mem}
        {tmps:=(ps.zip bN.toList).foldl (fun tmps (x:Nat×Value)=>tmps.setIfInBounds x.1 x.2) L.tmps,defers:=[]} w:=
       ⟨v1,eE,v2,Marks.nil (bA _),hm.er,⟨fun d v l h=>(by cases h),fun d v s p h=>(by cases h),fun d v b h=>(by cases h)⟩,ho.er⟩
      rw[HH]at T_;refine Lc (F:=F.inRound b) hF hd (iQ.inRound b) xa hK (fun c=>⟨aaQ,rfl⟩) m L.assign false (by simp) g bV (er own) _ .normal s1 _ w _ kO T_ fun g1 vT uF a1 w1 h1 h2=>?_;obtain⟨w2,oH,g2,D2,pX,h3,h4⟩:=Y_ (P:=P) h2 (h1.sub.2.1 _ _ hb) acm;refine⟨w2,oH,?_⟩;have fin:∀(ex:Ex) (s2:St) (jump:Option Code) (aL:LS),((jump=none/\aL= .ready)\/(jump=some .ret/\aL= .done none)\/∃i,jump=some (.exit i)/\aL= .done (some i))→
        exec gl ax (fN m) body {s1 with mem:=s1.mem.kV l .busy}=some (ex,s2)->s2.mem.ls l=some .busy->r= .bool jump.isNone->m'=s2.mem.kV l aL→
        (∀a3 w3,(∃v w',(Instr.endRound b jump).run P w3= .ok v w'/\∃x,Ending.returned v= .returned x/\lT base (mn P) gl g own w r m' x w')→
         roundPost P b (fun e w'=>∃x,e= .returned x/\lT base (mn P) gl g own w r m' x w') ex.AA a3 w3)→
        L.body.wpIn (F.inRound b) n P (roundPost P b fun e w'=>∃x,e= .returned x/\lT base (mn P) gl g own w r m' x w') a1 w2:=by
       intro ex s2 jump aL hj w_ yV hr lM oU;rw[l7]at w_;refine Lc (F:=F.inRound b) hF hd (iQ.inRound b) xa hK (fun c=>⟨aaR,rfl⟩) m L.body false (by simp) g2 D2 pX _ ex s2 _ w2 _ h4 w_ fun g3 lb3 uG a3 w3 h5 h6=>?_;obtain⟨w4,A0,g4,lb4,agY,h7,h8⟩:=aaN (P:=P) h6 (h5.sub.2.1 _ _ (h3.sub.2.1 _ _ (h1.sub.2.1 _ _ hb))) yV hj;refine oU a3 w3 ⟨_,w4,A0,_,rfl,?_⟩;have k:=((h1.trans h3).trans h5).trans h7;subst hr lM;refine⟨g4,er agY,⟨k.sub,k.size,k.os,k.tape,k.output,k.bm,fun b hb h=>WK (k.jH b hb h),k.im⟩,h8.mem.er,.bool _ _,h8.own.er,fun b d hb=>?_,h8.gl⟩;obtain⟨_,id,h⟩:=uI hb;cases h
      split at hx
      ·rename_i s2 w_;split at hx
       ·rename_i yV;cases hx;exact fin .normal s2 none .ready (.inl ⟨rfl,rfl⟩) w_ yV rfl rfl fun a3 w3 h=>h
       ·cases hx
      ·rename_i s2 w_;split at hx
       ·rename_i yV;cases hx;exact fin .ret s2 (some .ret) (.done none) (.inr (.inl ⟨rfl,rfl⟩)) w_ yV rfl rfl fun a3 w3 h=>h
       ·cases hx
      ·rename_i i s2 w_;split at hx
       ·rename_i yV;cases hx;exact fin (.exit i) s2 (some (.exit i)) (.done (some i)) (.inr (.inr ⟨i,rfl,rfl⟩)) w_ yV rfl rfl fun a3 w3 h=>h
       ·cases hx
      ·cases hx
    ·cases hx
   ·cases hx
  ·cases hx
 ·cases hx
theorem Sl(hF:∀f,F.fn f)(hd:F.depth=none)(vI:F.round=none){C:iK}(hC:EY F P base C):∀k,nA F P base (mn P) C.gl (cv C k):=by
 intro k;induction k with
 |zero=>intro n g lb own mem w fv args r m' fx bN _ _ _ _ _ h;simp[cv]at h
 |succ k ih=>
  intro n g lb own mem w fv args r m' fx bN hm ho eE De iG hx
  simp only[cv,body]at hx;split at hx
  ·rename_i f first cap
   obtain⟨As,Bs,rfl,Mk,Mn⟩:∃As Bs,fx= .func (.func f) As Bs/\PW (VR g lb) first As.toList/\PW (VR g lb) cap Bs.toList:=by
    cases De with
    |fn _ _ f2 _ _ As Bs hs ht hy hv hw=>
     cases f2<;>first|exact hy.elim|skip
     cases hy;exact⟨As,Bs,rfl,⟨by simpa using hs.symm,fun i hi ab=>by simpa using hv i hi (by simpa using ab)⟩,⟨by simpa using ht.symm,fun i hi ab=>by simpa using hw i hi (by simpa using ab)⟩⟩
   have dY:(do let d<-Deferred.ofValue (.func (.func f) As Bs) bN;invoke d.target d.args:Sem Next).run P w=(callFunc f (As++bN++Bs)).run P w:=by simp only[Deferred.ofValue,Sem.run_bind,Sem.run_pure,Result.andThen_ok,invoke]
   have jv:PW (VR g bV) ((first++args++cap).map (exp mem.ε.length (C.bm f))) (As++bN++Bs).toList:=by have:=(Mk.append iG).append Mn;simp only[al9];exact this.map _ fun a b h=>(h.exp _ _).sub (g.FF _)
   unfold tH;rw[dY];split at hx
   ·rename_i p hp;exact hC.iX f p hp n g own mem w _ r m' _ hm ho eE jv hx
   ·split at hx
    ·rename_i gf hg;obtain⟨fn,c,bf,h1,h2,h3,h4,h5⟩:=(hC.fs f gf hg).ex;exact .inl ⟨f,_,Ew h1 (by simp[h2]) h3,S7 hF hd vI ih (Lh hC k) (Lg C hC.Eh k) h1 h2 h4 h5 hm ho eE jv hx⟩
    ·cases hx
  ·rename_i f nm first cap
   obtain⟨As,Bs,rfl,Mk,Mn⟩:∃As Bs,fx= .func (.func f) As Bs/\PW (VR g lb) first As.toList/\PW (VR g lb) cap Bs.toList:=by
    cases De with
    |fn _ _ f2 _ _ As Bs hs ht hy hv hw=>
     cases f2<;>first|exact hy.elim|skip
     cases hy;exact⟨As,Bs,rfl,⟨by simpa using hs.symm,fun i hi ab=>by simpa using hv i hi (by simpa using ab)⟩,⟨by simpa using ht.symm,fun i hi ab=>by simpa using hw i hi (by simpa using ab)⟩⟩
   have dY:(do let d<-Deferred.ofValue (.func (.func f) As Bs) bN;invoke d.target d.args:Sem Next).run P w=(callFunc f (As++bN++Bs)).run P w:=by simp only[Deferred.ofValue,Sem.run_bind,Sem.run_pure,Result.andThen_ok,invoke]
   have jv:PW (VR g bV) ((first++args++cap).map (exp mem.ε.length true)) (As++bN++Bs).toList:=by have:=(Mk.append iG).append Mn;simp only[al9];exact this.map _ fun a b h=>(h.exp _ _).sub (g.FF _)
   unfold tH;rw[dY];split at hx
   ·rename_i gf hg;obtain⟨fn,c,bf,h1,h2,h3,h4,h5⟩:=(hC.alts f gf hg).ex;exact .inl ⟨f,_,Ew h1 (by simp[h2]) h3,S7 hF hd vI ih (Lh hC k) (Lg C hC.Eh k) h1 h2 h4 h5 hm ho eE jv hx⟩
   ·cases hx
  ·rename_i l;obtain⟨b,rfl,hb⟩:∃b,fx= .func (.yield b) #[] #[]/\g.mb l=some b:=by
    cases De with
    |fn _ _ f2 _ _ As Bs hs ht hy hv hw=>
     cases f2<;>first|exact hy.elim|skip
     have e1:As= #[]:=JQ.1 hs;have e2:Bs= #[]:=JQ.1 ht;subst e1 e2;exact⟨_,rfl,hy⟩
   obtain⟨nP,tmps,fO,wD,h1,h2⟩:=aiQ (n:=n) hF hd ih (Lh hC k) (Lg C hC.Eh k) hb hm ho eE iG hx;refine .inr (.inr ⟨b,nP,tmps,fO,wD,?_,h2⟩);simp only[Deferred.ofValue,Sem.run_bind,Sem.run_pure,Result.andThen_ok,invoke];have:(#[]++bN:Array Value)=bN:=by simp
   rw[this];exact h1
  ·cases hx
end
end Go.Δ
