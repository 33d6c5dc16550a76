import Derived.Test.YtiigojkfojnedaaGreatDoorSA
import Derived.RangeFuncLeaves
set_option linter.all false
set_option maxRecDepth 100000
set_option maxHeartbeats 8000000
open Nat renaming add_mul->kK,add_comm->Aw,lt_or_ge->da,one_mul->amc,mul_le_mul_right->mD,le_refl->bS,mod_lt->mC,add_zero->qu,le_trans->va,lt_of_lt_of_le->ku,max->ami,max_eq_left->amj,add_assoc->rz,le_of_lt->Ax,eq_or_lt_of_le->amk,strongRecOn->aml
open List renaming getElem?_append_left->ek,length_cons->cD,mem_cons_of_mem->yj,mem_of_mem_drop->tW,getElem_cons_succ->pF,getElem_drop->yg,mem_of_mem_take->qt,getElem?_take->Ar,all_eq_true->dO,drop_take->Aq,getElem?_eq_getElem->dn,mem_iff_getElem->pG,getElem_cons_zero->kJ,drop_drop->oL,replicate->Cu,replicate_succ->amg,getElem_take->Cs,drop_zero->Cq,take_of_length_le->fo,getElem?_set->wH,mem_append->dT,mem_cons->cy,length_take->lD,mem_append_left->At,mem_append_right->Ct,mem_filter->Au,length_nil->eO,getElem?_eq_some_iff->fB,length_drop->k_,map_cons->az,map_congr_left->de,getElem?_cons_zero->Cr,getD_eq_getElem?_getD->nT,getElem?_cons_succ->Ka,range->ry,mem_map->eP,mem_range->Av,getElem?_eq_none->h_,getElem_map->ja,getElem_mem->c_,nodup_cons->yk,map_nil->aJ,length_map->cg
open Option.some renaming injEq->bh
open Prod.mk renaming injEq->aA
open Go.World renaming cell?->sN
open Array renaming getElem_append_left->amd,getElem_mem->ame,toArray_toList->u7,getElem_toList->mz,getElem?_toList->Cl,getElem?_eq_getElem->wz,getD_eq_getD_getElem?->oK,getElem?_setIfInBounds->amh,getElem?_eq_none->amm,getElem?_eq_some_iff->An,replicate->amn,getElem?_setIfInBounds_ne->J4,toList_append->amo,size_eq_zero_iff->J5
open Bool renaming and_eq_true->ej,not_true->amf,false_eq_true->jV,true_and->rr,or_eq_true->ya,not_eq_true'->Ao,or_eq_false_iff->Fj
open Option renaming map_eq_some_iff->bD,map_some->qx,bind_eq_some_iff->Cv,getD_some->Fp
namespace Go.Θ
section
variable{P:Program}{base:Nat}{LC:eY}{g g':Gh}{lb lb':LB}{own aD:OW}{loc:Nat->Option (Nat×θ)}{mem:Mem}{w w':World}
variable{bj:Nat->Bool}{ay:cx}{ev:br->AV}{a:Act}{o:Oper}{ao:AO}{v:AV}{u:kL}{m':Mem}
theorem Jv(n:Nat)(z:List AV):(rep n z).length=n*z.length:=by
 induction n with
 |zero=>simp[rep]
 |succ n ih=>simp[rep,ih,kK,Aw]
theorem XI(z:List AV):∀(n k:Nat),k<n*z.length->(rep n z)[k]?=z[k % z.length]?:=by
 intro n;induction n with
 |zero=>intro k h;simp at h
 |succ n ih=>
  intro k h
  rw[rep];rcases da k z.length with ψ|dD
  ·rw[ek ψ,Nat.mod_eq_of_lt ψ]
  ·rw[kK,amc]at h;rw[List.getElem?_append_right dD,ih (k-z.length) (by omega),Nat.mod_eq_sub_mod dD]
theorem FR.pw{sz:Nat}:∀{l:List AV} {vs:List Value},FR g lb sz l vs->PW (VR g lb) (l.flatMap AV.cells) vs:=by
 intro l;induction l with
 |nil=>
  intro vs h
  have:vs=[]:=List.eq_nil_of_length_eq_zero (by have:=h.1;simpa using this);subst this;exact PW.nil
 |cons e l ih=>
  intro vs h
  obtain⟨h1,h2,h3,h4⟩:=h;have MV:e.cells.length=sz:=h2 e (by simp);simp only[cD,kK,amc]at h1;have qa:FR g lb sz l (vs.drop sz):=by
   refine⟨by simp;omega,fun e he=>h2 e (yj _ he),fun v hv=>h3 v (tW hv),fun i hi j hj dL=>?_⟩;have:=h4 (i+1) (by simpa using hi) j (by simpa using hj) (by rw[kK];simp at dL;omega);simp only[pF,yg]at this⊢;have e1:(i+1)*sz+j=sz+(i*sz+j):=by rw[kK];omega
   simpa only[e1]using this
  have y_:PW (VR g lb) e.cells (vs.take sz):=by refine⟨by simp;omega,fun j hj dL=>?_⟩;have:=h4 0 (by simp) j (by simpa using hj) (by simp at dL;omega);simpa using this
  have:=y_.append (ih qa);rw[List.take_append_drop]at this;simpa[List.flatMap_cons]using this
theorem aj4(hm:bc g own LC mem w){y:AV}{yv:Value}(hy:VR g lb y yv){sz k:Nat}{cs:List AV}(hc:cellsOf mem sz y=some (k,cs)):
  cs.length=k*sz/\(Builtin.lenOf yv).run P w= .ok k w/\∀j,j<=k->∃vs:List Value,(Builtin.firstCells sz j yv).run P w= .ok vs.toArray w/\PW (VR g lb) (cs.take (j*sz)) vs/\∀v∈vs,v.oneCell'=true:=by
 have key:∀(b o cap:Nat) (full:List Value),yv= .slice (some ⟨b,o,none⟩) k cap->cs.length=k*sz->PW (VR g lb) cs full->(∀v∈full,v.oneCell'=true)→
   (∀j v,full[j]?=some v->w.cell? ⟨b,o+j,none⟩=some v)->cs.length=k*sz/\(Builtin.lenOf yv).run P w= .ok k w∧
   ∀j,j<=k->∃vs:List Value,(Builtin.firstCells sz j yv).run P w= .ok vs.toArray w/\PW (VR g lb) (cs.take (j*sz)) vs/\∀v∈vs,v.oneCell'=true:=by
  rintro b o cap full rfl hlen cO h1 nC
  refine⟨hlen,rfl,fun j hj=>⟨full.take (j*sz),?_,cO.take _,fun v hv=>h1 v (qt hv)⟩⟩;have rX:j*sz<=full.length:=by rw[<-cO.1,hlen];exact mD _ hj
  have Bw:=run_loadCells_list (P:=P) w ⟨b,o,none⟩ (full.take (j*sz)) (fun q v hv=>by
   rw[Addr.add_mid]
   rw[Ar]at hv;split at hv
   ·exact nC q v hv
   ·cases hv)
  have acz:(full.take (j*sz)).length=j*sz:=by simp;omega
  rw[acz]at Bw;simp only[Builtin.firstCells,Bw]
 cases y with
 |list c l=>
  simp only[cellsOf]at hc
  split at hc
  ·rename_i jX;simp only[bh,aA]at hc;obtain⟨rfl,rfl⟩:=hc;simp only[dO,decide_eq_true_eq]at jX;by_cases hle:l=[]
   ·subst hle;have Od:(yv= .slice none 0 0)\/(∃ad cap,yv= .slice (some ad) 0 cap)\/∃b o cap,yv= .slice (some ⟨b,o,none⟩) 0 cap:=by
     cases hy with
     |iU=>exact .inl rfl
     |iw _ _ ad cap hc=>exact .inr (.inl ⟨_,_,rfl⟩)
     |list _ _ _ b o eT n cap xs hn=>simp at hn;subst hn;exact .inr (.inr ⟨_,_,_,rfl⟩)
    rcases Od with rfl|⟨ad,cap,rfl⟩|⟨b,o,cap,rfl⟩
    ·refine⟨by simp,rfl,fun j hj=>⟨[],rfl,by simp[PW],by simp⟩⟩
    ·refine⟨by simp,rfl,fun j hj=>⟨[],?_,by simp[PW],by simp⟩⟩;have:j=0:=by simp at hj;exact hj
     subst this;simp[Builtin.firstCells,loadCells,loadCellsFrom]
    ·exact key b o cap [] rfl (by simp) PW.nil (by simp) (by simp)
   ·obtain⟨b,o,cap,vs,rfl,-,-,dK,cC⟩:=hy.flat jX hle;have hp:=dK.pw;refine key b o cap vs rfl ?_ (hp.mono fun _ _ h=>h.mono g.eS fun _ _ _ h=>by cases h) dK.2.2.1 (fun j v hv=>hm.im _ _ _ (cC j v hv));rw[hp.1,dK.1]
  ·cases hc
 |sl kd id off n cap=>
  simp only[cellsOf]at hc
  split at hc
  ·rename_i l hb;split at hc
   ·rename_i hle;simp only[bh,aA]at hc;obtain⟨rfl,rfl⟩:=hc;cases hy with
    |sl _ _ _ _ _ _ gq b mS eG aY=>
    obtain⟨b2,k1,k2⟩:=hm.blk id _ hb
    rw[aY]at k1;cases k1;obtain⟨aa,e,k3,k4,IB,k5⟩:=k2.pw;have MT:(aa.toList.drop off).take (n*sz)=((aa.toList.take l.length).drop off).take (n*sz):=by rw[Aq,List.take_take,Nat.min_eq_left (by omega)]
    refine key b off gq ((aa.toList.drop off).take (n*sz)) rfl (by simp;omega) ((MT▸(k4.drop off).take (n*sz):PW (VR g bV) _ _).mono fun _ _ h=>h.mono g.eS fun _ _ _ h=>by cases h) (fun v hv=>k5 v (tW (qt hv))) (fun j v hv=>?_);rw[Ar]at hv;split at hv
    ·rw[List.getElem?_drop]at hv;simpa[sN,k3]using hv
    ·cases hv
   ·cases hc
  ·cases hc
 |_=>simp[cellsOf]at hc
theorem WD(hm:bc g own LC mem w)(hl:cz g lb own loc w)(ho:bT base own w){l:List AV}{vs:List Value}{rest:Array Value}{e:TypeId}{kd n cap:Nat}(cO:PW (VR g lb) l vs)(h1:∀v∈vs,v.oneCell'=true)(hr:∀v∈rest,v.oneCell'=true)(hn:n<=cap):
  ib base LC g lb own loc w (.sl kd mem.ε.length 0 n n) none (mem.push (.cells (l.map mem.ν))) (.slice (some ⟨w.heap.size,0,none⟩) n cap) (w.drew.alloc (.cells (vs.toArray++rest) e)):=by
 refine ib.drew ?_;have ov:=cO.1;have pd:=WG (LC:=LC) (cs:=vs.toArray++rest) (l:=l) (e:=e) (oU:=true) (dst:=none) hm.drew hl.drew ho.drew (by simp;omega) (fun i hi ae=>by
   have jo:i<vs.length:=by omega
   have:=cO.2 i hi jo;rw[amd (by simpa using jo)];simpa using this) (fun i ae=>by
   rcases da i vs.length with h|h
   ·rw[amd (by simpa using h)];exact h1 _ (by simp)
   ·rw[Array.getElem_append_right (by simpa using h)];exact hr _ (ame _)) (rfl:newVar loc mem true none l=some (.μ mem.ε.length 0,none,_))
 obtain⟨g',lb',aD,p1,p2,p3,p4,p5,p6⟩:=pd;refine⟨g',lb',aD,p1,p2,?_,p4,p5,p6⟩;cases p3 with
 |μ _ _ _ b hb=>exact .sl _ _ _ _ _ _ _ _ (bS _) hn hb
theorem Zc(hm:bc g own LC mem w)(hl:cz g lb own loc w)(ho:bT base own w){x y:AV}{xv yv:Value}(hx:VR g lb x xv)(hy:VR g lb y yv)
  {t ty e:TypeId} {i:TypeInfo} {z:Value} (ht:P.underlying t=some (.slice e)) (hi:P.info? e=some i) (hz:i.zero=some z) (kT:z.cells.size=i.size) (gu:∀v∈z.cells.toList,v.oneCell'=true)
  {ag:Bool} {v:AV} {m':Mem} (hr:wJ mem ag i.size i.bytes x y=some (v,m')):
  ∃(xr:Value) (w':World),(Builtin.append_ #[t,t] ty #[xv,yv]).run P w= .ok xr w'/\ib base LC g lb own loc w v none m' xr w':=by
 unfold wJ at hr;split at hr
 ·rename_i c c' m;split at hr
  ·rename_i ji;simp only[ej,dO,decide_eq_true_eq]at ji;obtain⟨⟨⟨⟨mU,h0⟩,vw⟩,hlen⟩,eG⟩:=ji;have NF:∀e∈m,e.cells.length=i.size:=fun e he=>JF (mU e he);split at hr
   ·cases hr;refine Qy (P:=P) (ag:=ag) hm hl ho hx hy ht hi hz kT ?_;have:decide (0<i.size)=true:=decide_eq_true h0;unfold gC;rcases eG with rfl|rfl<;>simp[h0]
   ·rename_i rZ;have rZ:m≠[]:=fun h=>rZ (by rw[h]);cases hr;have By:0<m.length:=List.length_pos_iff.2 rZ;obtain⟨yb,yo,tQ,us,rfl,-,-,lr,Ni⟩:=hy.flat NF rZ;have tn:∀j u,us[j]?=some u->w.cell? ((⟨yb,yo,none⟩:Addr).add j)=some u:=fun j u hj=>by rw[Addr.add_mid];exact hm.im _ _ _ (Ni j u hj)
    have cO:PW (VR g lb) (m.flatMap AV.cells) us:=lr.pw.mono fun _ _ h=>h.mono g.eS fun _ _ _ h=>by cases h
    have Eh:∀n,∀v∈Builtin.zeroCells z.cells n,v.oneCell'=true:=fun n v hv=>by
     simp only[Builtin.zeroCells,Array.mem_map,Array.mem_range]at hv;obtain⟨k,hk,rfl⟩:=hv;have df:k % z.cells.size<z.cells.size:=mC _ (by
      rcases Nat.eq_zero_or_pos z.cells.size with h|h
      ·rw[h]at hk;omega
      ·exact h)
     rw[getElem!_pos z.cells _ df];exact gu _ (by simp)
    have Ee:xv= .slice none 0 0\/∃ad,xv= .slice (some ad) 0 0:=by
     cases hx with
     |iU=>exact .inl rfl
     |iw _ _ ad cap hc=>
      rcases hc with hc|⟨_,hc⟩
      ·subst hc;rcases eG with h|h<;>cases h
      ·exact .inr ⟨ad,by rw[hc]⟩
     |list _ _ _ b o sz n cap xs hn dQ hc=>
      simp at hn;subst hn
      rcases eG with rfl|rfl
      ·exact .inr ⟨⟨b,o,none⟩,by simp only[nu]at hc;subst hc;rfl⟩
      ·exact hc.elim
    have vI:(m.length:Int)<=9223372036854775807:=by omega
    rcases Ee with rfl|⟨ad,rfl⟩
    ·exact⟨_,_,run_append_nil (P:=P) w t ty e i z ht hi hz ⟨yb,yo,none⟩ m.length tQ us lr.1 tn By vI (by omega),WD hm hl ho cO lr.2.2.1 (Eh _) (grownCap_ge w m.length 0 e)⟩
    ·have hg:=run_append_grow (P:=P) w t ty e i z ht hi hz ad 0 0 [] (by simp) (by simp) ⟨yb,yo,none⟩ m.length tQ us lr.1 tn (by omega) (by omega) (growslice_fits (by omega) (by simpa using vw));refine⟨_,_,hg,?_⟩;have:=WD (LC:=LC) (kd:=if ag then i.size else 0) (e:=e) hm hl ho cO lr.2.2.1 (Eh (grownCap w m.length 0 e-m.length)) (grownCap_ge w m.length 0 e);simpa using this
  ·cases hr
 ·cases hr
theorem agQ(aq:eU g lb ev a)(hm:bc g own LC mem w)(hl:cz g lb own loc w)(ho:bT base own w){c:Call}(Ξ:o.op= .call c)(hb:c.callee= .builtin .append){ag:Bool}{sz bytes:Nat}{e:TypeId}{x' y':br}
  (hc:cV P bj o=some (.appm ag sz bytes e x' y')) (hr:aI ev loc mem ay o.dst (.appm ag sz bytes e x' y')=some (v,u,m')):rA P base LC g lb own loc w a o v u m':=by
 simp only[cV,Ξ,hb]at hc;split at hc
 ·rename_i x y t t' iG tw;split at hc
  ·rename_i e2 x2 y2 hu hx hy;split at hc
   ·rename_i i ag2 z hi lM hz;split at hc
    ·rename_i mV;subst mV;by_cases mT:AY bj o.dst=true
     ·rw[if_pos mT]at hc;cases hc;have oe:(c.args.map a.eval)= #[a.eval x,a.eval y]:=by
       have:(c.args.map a.eval).toList=[a.eval x,a.eval y]:=by simp[iG]
       rw[<-u7 (xs:=c.args.map a.eval),this]
      have qd:c.argTypes= #[t,t]:=by rw[<-u7 (xs:=c.argTypes),tw]
      simp only[aI,bD,aA,Prod.exists]at hr;obtain⟨r,m1,hr,rfl,rfl,rfl⟩:=hr;obtain⟨zv,i',ae,gu,iI,kT,-,-,-,hzo⟩:=Ai (P:=P) (g:=g) (lb:=lb) (w:=w) hz;rw[hi]at ae;cases ae;obtain⟨xr,w',h1,h2⟩:=Zc (P:=P) (ty:=o.type) hm hl ho (aq _ _ hx) (aq _ _ hy) hu hi gu kT hzo hr;refine⟨xr,w',.inl ?_,h2⟩;simp only[execOp,Ξ,resolve,hb,oe,qd,Sem.run_bind,Sem.run_pure,Result.andThen_ok,invoke,builtin,h1]
     ·rw[if_neg mT]at hc;cases hc
    ·cases hc
   ·cases hc
  ·cases hc
 ·cases hc
theorem agP(aq:eU g lb ev a)(hm:bc g own LC mem w)(hl:cz g lb own loc w)(ho:bT base own w){c:Call}(Ξ:o.op= .call c)(hb:c.callee= .builtin .append)
  :gI P bj base LC g lb own loc mem w ay ev a o ao v u m':=fun hc hr=>by
 by_cases Uo:∃ag sz bytes e x y,ao= .appm ag sz bytes e x y
 ·obtain⟨ag,sz,bytes,e,x,y,rfl⟩:=Uo;exact agQ aq hm hl ho Ξ hb hc hr
 ·exact agO aq hm hl ho Ξ hb hc (fun ag sz bytes e x y h=>Uo ⟨ag,sz,bytes,e,x,y,h⟩) hr
theorem ahb(aq:eU g lb ev a)(hm:bc g own LC mem w)(hl:cz g lb own loc w)(ho:bT base own w){t:TypeId}{x y:Operand}(Ξ:o.op= .makeSlice t x y)
  :gI P bj base LC g lb own loc mem w ay ev a o ao v u m':=fun hc hr=>by
 simp only[cV,Ξ]at hc;split at hc
 ·rename_i e x' y' hu hx hy;split at hc
  ·rename_i z i hz hi;cases hc;simp only[aI]at hr;split at hr
   ·rename_i kn n kc c e1 e2;split at hr
    ·rename_i hb;simp only[bh,aA]at hr;obtain⟨rfl,rfl,rfl⟩:=hr;have k1:=aq _ _ hx;have k2:=aq _ _ hy;rw[e1]at k1;rw[e2]at k2;obtain⟨zv,i',ae,gu,iI,kT,uD,jQ,Oh,Of⟩:=Ai (P:=P) (g:=g) (lb:=lb) (w:=w) hz;rw[hi]at ae;cases ae;obtain⟨b0,b1,b2,b3⟩:=hb;have dZ:=run_make (P:=P) w t e i zv hu hi gu kn kc n c b0 b1 b2 b3;have aL:(madeCells zv.cells (c.toNat*i.size)).size=(rep c.toNat z).length:=by rw[size_madeCells,Jv,uD]
     have DQ:∀k (h:k<(rep c.toNat z).length) (h':k<(madeCells zv.cells (c.toNat*i.size)).size),
       (rep c.toNat z)[k]=z[k % z.length]'(mC _ (by omega))/\(madeCells zv.cells (c.toNat*i.size))[k]=zv.cells[k % zv.cells.size]'(mC _ (by omega)):=by
      intro k h h';have hk:k<c.toNat*z.length:=by rw[Jv]at h;exact h
      refine⟨?_,?_⟩
      ·have:=XI z c.toNat k hk;rw[dn h,dn (mC _ (by omega))]at this;exact Option.some.inj this
      ·have hm:k % zv.cells.size<zv.cells.size:=mC _ (by omega);simp[madeCells,hm]
     have pd:=O4 (LC:=LC) (e:=e) (oU:=true) (dst:=none) hm hl ho aL (fun k h h'=>by
       obtain⟨q1,q2⟩:=DQ k h h'
       rw[q1,q2];have:=Oh.2 (k % z.length) (mC _ (by omega)) (by simp;rw[kT,<-uD];exact mC _ (by omega));have he:k % zv.cells.size=k % z.length:=by rw[kT,uD]
       simpa only[he,mz]using this) (fun k h'=>by
       obtain⟨-,q2⟩:=DQ k (by omega) h';rw[q2];exact Of _ (by simp)) (rfl:newVar loc mem true none (rep c.toNat z)=some (.μ mem.ε.length 0,none,_))
     refine⟨.slice (some ⟨w.heap.size,0,none⟩) n.toNat c.toNat,w.alloc (.cells (madeCells zv.cells (c.toNat*i.size)) e),.inl ?_,?_⟩
     ·exact(by simp only[execOp,Ξ,u3 k1,u3 k2,Sem.run_bind,dZ,Result.andThen_ok];rfl)
     ·obtain⟨g',lb',aD,p1,p2,p3,p4,p5,p6⟩:=pd;refine⟨g',lb',aD,p1,p2,?_,p4,p5,p6⟩;cases p3 with
      |μ _ _ _ b hb=>exact .sl _ _ _ _ _ _ _ _ (by omega) (bS _) hb
    ·cases hr
   ·cases hr
  ·cases hc
 ·cases hc
theorem agW(aq:eU g lb ev a)(hm:bc g own LC mem w)(hl:cz g lb own loc w)(ho:bT base own w){c:Call}(Ξ:o.op= .call c)(hb:c.callee= .builtin .copy)
  :gI P bj base LC g lb own loc mem w ay ev a o ao v u m':=fun hc hr=>by
 simp only[cV,Ξ,hb]at hc;split at hc
 ·rename_i x y t ts iG tw;split at hc
  ·rename_i e x' y' hu hx hy;simp only[bD]at hc;obtain⟨sz,aL,rfl⟩:=hc;have oe:(c.args.map a.eval)= #[a.eval x,a.eval y]:=by
    have:(c.args.map a.eval).toList=[a.eval x,a.eval y]:=by simp[iG]
    rw[<-u7 (xs:=c.args.map a.eval),this]
   have qd:c.argTypes[0]?=some t:=by rw[<-Cl,tw];rfl
   simp only[aI]at hr;split at hr
   ·rename_i id off n cp e1;split at hr
    ·rename_i k cs jm;simp only[bD,aA,Prod.exists]at hr;obtain⟨u1,m1,hw,rfl,rfl,rfl⟩:=hr;have k1:=aq _ _ hx;rw[e1]at k1;obtain⟨b,cq,bG,hid,dQ,yW⟩:∃b cq,a.eval x= .slice (some ⟨b,off,none⟩) n cq/\g.mb id=some b/\n<=cp/\cp<=cq:=by
      generalize a.eval x=xv at k1;cases k1 with
      |sl _ _ _ _ _ _ cq b mS yW aY=>exact⟨b,cq,rfl,aY,mS,yW⟩
     obtain⟨s1,s2,-⟩:=pD (P:=P) (w:=w) aL;obtain⟨q1,q2,q3⟩:=aj4 (P:=P) hm (aq _ _ hy) jm;obtain⟨vs,q4,q5,q6⟩:=q3 (Nat.min k n) (Nat.min_le_left _ _);have N7:u1=none:=by
      simp only[wr]at hw;split at hw
      ·split at hw
       ·cases hw;rfl
       ·cases hw
      ·cases hw
     subst N7;have lS:wr loc mem (.μ id off) (cs.take (Nat.min k n*sz))=some (none,m1):=hw;obtain⟨b2,agA,aa,ee,w1,w2,w3,w4⟩:=P6 hm hl ho (.μ lb id off b hid) q5 q6 lS;cases w1;have Ω:=run_storeCells_at P b off ee vs 0 aa w w2 (by simpa using w3) q6;simp only[qu]at Ω;refine⟨.int .i64 (Nat.min k n:Nat),w.setRow b (arr aa off vs),.inl ?_,?_⟩
     ·simp only[execOp,Ξ,resolve,hb,oe,Sem.run_bind,Sem.run_pure,Result.andThen_ok,invoke,builtin,Builtin.copy_,qd,bG];have NZ:(storeCells ⟨b,off,none⟩ vs).run P w= .ok () (w.setRow b (arr aa off vs)):=Ω;have xt:(Builtin.lenOf (.slice (some ⟨b,off,none⟩) n cp)).run P w= .ok n w:=rfl;simp[run_underlying hu,q2,s1,q4,NZ,goInt]
     ·obtain⟨g',lb',aD,p1,p2,p3,p4,p5,p6⟩:=w4;exact⟨g',lb',aD,p1,p2,.int _ _ _,p4,p5,p6⟩
    ·cases hr
   ·cases hr
  ·cases hc
 ·cases hc
theorem agU(aq:eU g lb ev a)(hm:bc g own LC mem w)(hl:cz g lb own loc w)(ho:bT base own w){c:Call}(Ξ:o.op= .call c)(hb:c.callee= .builtin .clear)
  :gI P bj base LC g lb own loc mem w ay ev a o ao v u m':=fun hc hr=>by
 simp only[cV,Ξ,hb]at hc;split at hc
 ·rename_i x t iG tw;split at hc
  ·rename_i e x' hu hx;simp only[bD]at hc;obtain⟨z,hz,rfl⟩:=hc;have oe:(c.args.map a.eval)= #[a.eval x]:=by
    have:(c.args.map a.eval).toList=[a.eval x]:=by simp[iG]
    rw[<-u7 (xs:=c.args.map a.eval),this]
   have qd:c.argTypes[0]?=some t:=by rw[<-Cl,tw];rfl
   have k1:=aq _ _ hx;simp only[aI]at hr;split at hr
   ·rename_i cc e1;simp only[bh,aA]at hr;obtain⟨rfl,rfl,rfl⟩:=hr;rw[e1]at k1;have bG:∃A cap,a.eval x= .slice A 0 cap:=by
     generalize a.eval x=xv at k1;cases k1 with
     |iU=>exact⟨_,_,rfl⟩
     |iw=>exact⟨_,_,rfl⟩
     |list _ _ _ b o sz n cap xs hn=>simp at hn;subst hn;exact⟨_,_,rfl⟩
    obtain⟨A,cap,bG⟩:=bG;refine .pure hm hl ho (x:= .tuple #[]) ?_ (.undef _);simp only[execOp,Ξ,resolve,hb,oe,Sem.run_bind,Sem.run_pure,Result.andThen_ok,invoke,builtin,Builtin.clear_,qd,bG];cases A<;>simp[run_underlying hu]
   ·rename_i id off n cp e1;rw[e1]at k1;obtain⟨b,cq,bG,hid,dQ,yW⟩:∃b cq,a.eval x= .slice (some ⟨b,off,none⟩) n cq/\g.mb id=some b/\n<=cp/\cp<=cq:=by
     generalize a.eval x=xv at k1;cases k1 with
     |sl _ _ _ _ _ _ cq b mS yW aY=>exact⟨b,cq,rfl,aY,mS,yW⟩
    split at hr
    ·rename_i hn;simp only[bh,aA]at hr;obtain⟨rfl,rfl,rfl⟩:=hr;subst hn;refine .pure hm hl ho (x:= .tuple #[]) ?_ (.undef _);simp only[execOp,Ξ,resolve,hb,oe,Sem.run_bind,Sem.run_pure,Result.andThen_ok,invoke,builtin,Builtin.clear_,qd,bG];simp[run_underlying hu]
    rename_i hn;simp only[bD,aA,Prod.exists]at hr;obtain⟨u1,m1,hw,rfl,rfl,rfl⟩:=hr;have N7:u1=none:=by
     simp only[wr]at hw;split at hw
     ·split at hw
      ·cases hw;rfl
      ·cases hw
     ·cases hw
    subst N7;have lS:wr loc mem (.μ id off) (rep n z)=some (none,m1):=hw;obtain⟨zv,i,hi,gu,iI,kT,uD,jQ,Oh,Of⟩:=Ai (P:=P) (g:=g) (lb:=lb) (w:=w) hz;have aL:(Builtin.zeroCells zv.cells n).size=(rep n z).length:=by rw[size_zeroCells,Jv,uD,kT]
    have DQ:∀k (h:k<(rep n z).length) (h':k<(Builtin.zeroCells zv.cells n).size),
      (rep n z)[k]=z[k % z.length]'(mC _ (by omega))/\(Builtin.zeroCells zv.cells n)[k]=zv.cells[k % zv.cells.size]'(mC _ (by omega)):=by
     intro k h h';have hk:k<n*z.length:=by rw[Jv]at h;exact h
     refine⟨?_,?_⟩
     ·have:=XI z n k hk;rw[dn h,dn (mC _ (by omega))]at this;exact Option.some.inj this
     ·have hm:k % zv.cells.size<zv.cells.size:=mC _ (by omega);simp[Builtin.zeroCells,hm]
    have cO:PW (VR g lb) (rep n z) (Builtin.zeroCells zv.cells n).toList:=by
     refine⟨by simp[aL],fun k h h'=>?_⟩;obtain⟨q1,q2⟩:=DQ k h (by simpa using h');have e3:(Builtin.zeroCells zv.cells n).toList[k]=(Builtin.zeroCells zv.cells n)[k]'(by simpa using h'):=mz _;rw[q1,e3,q2];have:=Oh.2 (k % z.length) (mC _ (by omega)) (by simp;rw[kT,<-uD];exact mC _ (by omega));have he:k % zv.cells.size=k % z.length:=by rw[kT,uD]
     simpa only[he,mz]using this
    have h1:∀v∈(Builtin.zeroCells zv.cells n).toList,v.oneCell'=true:=by intro v hv;obtain⟨k,hk,rfl⟩:=pG.1 hv;obtain⟨-,q2⟩:=DQ k (by simpa[aL]using hk) (by simpa using hk);have e3:(Builtin.zeroCells zv.cells n).toList[k]=(Builtin.zeroCells zv.cells n)[k]'(by simpa using hk):=mz _;rw[e3,q2];exact Of _ (by simp)
    obtain⟨b2,agA,aa,ee,w1,w2,w3,w4⟩:=P6 hm hl ho (.μ lb id off b hid) cO h1 lS;cases w1;have Ω:=run_storeCells_at P b off ee _ 0 aa w w2 (by simpa using w3) h1;simp only[qu]at Ω;refine⟨.tuple #[],w.setRow b (arr aa off (Builtin.zeroCells zv.cells n).toList),.inl ?_,?_⟩
    ·simp only[execOp,Ξ,resolve,hb,oe,Sem.run_bind,Sem.run_pure,Result.andThen_ok,invoke,builtin,Builtin.clear_,qd,bG];obtain⟨n',rfl⟩:∃n',n=n'+1:=⟨n-1,by omega⟩;simp[run_underlying hu,iI,Ω,arr]
    ·obtain⟨g',lb',aD,p1,p2,p3,p4,p5,p6⟩:=w4;exact⟨g',lb',aD,p1,p2,.undef _,p4,p5,p6⟩
   ·cases hr
  ·cases hc
 ·cases hc
end
section
variable{P:Program}{base:Nat}{LC:eY}{g:Gh}{lb:LB}{own:OW}{loc:Nat->Option (Nat×θ)}{mem:Mem}{w:World}{bj:Nat->Bool}{ay:cx}
variable{ev:br->AV}{a:Act}{o:Oper}{ao:AO}{v:AV}{u:kL}{m':Mem}
def AK:KK->AV->AV->Option Bool
 | .int,.int k a,.int k' b=>if k=k' then some (decide (a=b))else none
 | .str,.str a,.str b=>some (decide (a=b))
 | .bool,.bool a,.bool b=>some (a==b)
 |_,_,_=>none
theorem LO{k:KK}{ks:List KK}{l m:List AV}{r:Bool}(h:jL (k::ks) l m=some r):
  ∃x y l' m' r1 r2,l=x::l'/\m=y::m'/\AK k x y=some r1/\jL ks l' m'=some r2/\r=(r1&&r2):=by
 cases k<;>cases l with
 |nil=>simp[jL]at h
 |cons x l=>
  cases m with
  |nil=>cases x<;>simp[jL]at h
  |cons y m=>
   cases x<;>cases y<;>simp only[jL]at h<;>first|(cases h;done)|skip
   all_goals first
    |(
      split at h
      ·rename_i hk;simp only[bD]at h;obtain⟨r2,h2,rfl⟩:=h;exact⟨_,_,_,_,_,r2,rfl,rfl,by simp only[AK,hk,if_true],h2,rfl⟩
      ·cases h)
    |(
      simp only[bD]at h
      obtain⟨r2,h2,rfl⟩:=h;exact⟨_,_,_,_,_,r2,rfl,rfl,rfl,h2,rfl⟩)
theorem XN{k:KK}{t:TypeId}(hk:qf P t=some k){x y:AV}{xv yv:Value}(hx:VR g lb x xv)(hy:VR g lb y yv){r:Bool}(h:AK k x y=some r)(d:Nat):
  (Op.equalIn (d+1) t xv yv).run P w= .ok r w:=by
 unfold qf at hk;split at hk
 ·rename_i q hu;cases hk;cases x<;>cases y<;>simp only[AK]at h<;>first|(cases h;done)|skip
  split at h
  ·rename_i eI;subst eI;cases h;cases hx;cases hy;rw[run_equalIn_int w d t _ _ _ _ hu];rfl
  ·cases h
 ·rename_i hu;cases hk;cases x<;>cases y<;>simp only[AK]at h<;>first|(cases h;done)|skip
  cases h;cases hx;cases hy;rename_i b1 h1 b2 h2;rw[run_equalIn_string w d t _ _ hu,PX h1 h2]
 ·rename_i hu;cases hk;cases x<;>cases y<;>simp only[AK]at h<;>first|(cases h;done)|skip
  cases h;cases hx;cases hy;exact run_equalIn_bool d hu _ _
 ·cases hk
theorem afm{t:TypeId}{k:KK}(h:qf P t=some k):(isAgg t).run P w= .ok false w:=by
 unfold qf at h;split at h
 ·rename_i hu;simp[isAgg,run_underlying hu]
 ·rename_i hu;simp[isAgg,run_underlying hu]
 ·rename_i hu;simp[isAgg,run_underlying hu]
 ·cases h
theorem Jx{t:TypeId}{k:KK}(h:qf P t=some k){cs:Array Value}{off:Nat}(ho:off<cs.size):(part t cs off).run P w= .ok cs[off] w:=by simp[part,afm h,wz ho]
theorem SY(d:Nat){xs ys:Array Value}:∀(fs:List Field) (k:Nat) (ks:List KK) (l m:List AV) (r:Bool),Gi P k fs=some ks->jL ks l m=some r→
  PW (VR g lb) l (xs.toList.drop k)->PW (VR g lb) m (ys.toList.drop k)->(Op.eqFields (d+1) xs ys fs).run P w= .ok r w
 |[],k,ks,l,m,r,hf,he,_,_=>by cases hf;cases l<;>cases m<;>simp[jL]at he;subst he;rfl
 |f::fs,k,ks,l,m,r,hf,he,hx,hy=>by
  simp only[Gi]at hf;split at hf
  ·rename_i kk ks' h1 h2 h3;split at hf
   ·rename_i hc;obtain⟨acP,rfl⟩:=hc;cases hf;obtain⟨x,y,l',m',r1,r2,rfl,rfl,e1,e2,rfl⟩:=LO he;have Nr:f.offset<xs.size:=by have:=hx.1;simp at this;omega
    have Ns:f.offset<ys.size:=by have:=hy.1;simp at this;omega
    have vx:=hx.2 0 (by simp) (by simp;omega);have vy:=hy.2 0 (by simp) (by simp;omega);simp only[kJ,yg,qu,mz]at vx vy;have gr:PW (VR g lb) l' (xs.toList.drop (f.offset+1)):=by have:=hx.drop 1;simpa[oL]using this
    have mh:PW (VR g lb) m' (ys.toList.drop (f.offset+1)):=by have:=hy.drop 1;simpa[oL]using this
    have ih:=SY d fs (f.offset+1) ks' l' m' r2 h3 e2 gr mh;have vA:=XN (P:=P) (w:=w) h1 vx vy e1 d;simp only[Op.eqFields];rw[if_pos acP];simp only[Sem.run_bind,Jx h1 Nr,Jx h1 Ns,Result.andThen_ok,vA];cases r1
    ·rfl
    ·simp only[amf,jV,if_false,rr];exact ih
   ·cases hf
  ·cases hf
theorem QA(d:Nat){e:TypeId}{k:KK}(hk:qf P e=some k){xs ys:Array Value}:∀(n i:Nat) (l m:List AV) (r:Bool),jL (Cu n k) l m=some r→
  PW (VR g lb) l ((xs.toList.drop i).take n)->PW (VR g lb) m ((ys.toList.drop i).take n)→
  (forIn (m:=Sem) (List.range' i n) ((none,()):Option Bool×Unit) fun j _=>do
    if !(<-Op.equalIn (d+1) e (<-part e xs (j*1)) (<-part e ys (j*1)))then pure (ForInStep.done (some false,()))else pure (ForInStep.yield (none,()))).run P w=
   .ok (if r then(none,())else(some false,())) w
 |0,i,l,m,r,he,_,_=>by cases l<;>cases m<;>simp[jL]at he;subst he;rfl
 |n+1,i,l,m,r,he,hx,hy=>by
  rw[amg]at he;obtain⟨x,y,l',m',r1,r2,rfl,rfl,e1,e2,rfl⟩:=LO he;have Nr:i<xs.size:=by have:=hx.1;simp at this;omega
  have Ns:i<ys.size:=by have:=hy.1;simp at this;omega
  have vx:=hx.2 0 (by simp) (by simp;omega);have vy:=hy.2 0 (by simp) (by simp;omega);simp only[kJ,Cs,yg,qu,mz]at vx vy;have gr:PW (VR g lb) l' ((xs.toList.drop (i+1)).take n):=by have:=hx.drop 1;simpa[Aq,oL]using this
  have mh:PW (VR g lb) m' ((ys.toList.drop (i+1)).take n):=by have:=hy.drop 1;simpa[Aq,oL]using this
  have ih:=QA d hk n (i+1) l' m' r2 e2 gr mh;have vA:=XN (P:=P) (w:=w) hk vx vy e1 d;rw[List.range'_succ];simp only[List.forIn_cons,Sem.run_bind,Nat.mul_one,Jx hk Nr,Jx hk Ns,Result.andThen_ok,vA];cases r1
  ·rfl
  ·simp only[amf,jV,if_false,rr,Sem.run_pure,Result.andThen_ok];simp only[Nat.mul_one]at ih;exact ih
theorem abt{t:TypeId}{ks:List KK}(hf:C9 P t=some ks){l m:List AV}{xs ys:Array Value}{r:Bool}(hx:VR g lb (.agg l) (.agg xs))(hy:VR g lb (.agg m) (.agg ys))(he:jL ks l m=some r):
  P.eqGuardType P.depth t=false/\(Op.equalIn 10000 t (.agg xs) (.agg ys)).run P w= .ok r w:=by
 unfold C9 at hf;split at hf
 ·cases hf
 ·rename_i o6;refine⟨by simpa using o6,?_⟩;have px:=(Xs hx).1;have py:=(Xs hy).1;split at hf
  ·rename_i fields hu;split at hf
   ·cases hf
   ·rename_i Ω;have UF:P.fieldsOf t=fields:=by simp[Program.fieldsOf,hu]
    rw[show(10000:Nat)=9998+1+1 from rfl,run_equalIn_struct w (9998+1) t xs ys (by rw[UF];exact hu) (by simpa using Ω),UF];exact SY 9998 fields.toList 0 ks l m r hf he (by simpa using px) (by simpa using py)
  ·rename_i n e hu;split at hf
   ·rename_i kk hk hs;cases hf;obtain⟨s1,-,-⟩:=pD (P:=P) (w:=w) hs;have hlx:l.length=n/\m.length=n:=by
     have:∀(n:Nat) (l m:List AV) (r:Bool),jL (Cu n kk) l m=some r->l.length=n/\m.length=n:=by
      intro n;induction n with
      |zero=>intro l m r h;cases l<;>cases m<;>simp[jL]at h;exact⟨rfl,rfl⟩
      |succ n ih=>
       intro l m r h
       rw[amg]at h;obtain⟨_,_,l',m',_,_,rfl,rfl,_,h2,_⟩:=LO h;have:=ih _ _ _ h2;exact⟨by simp[this.1],by simp[this.2]⟩
     exact this n l m r he
    have ha:=QA (P:=P) (w:=w) (xs:=xs) (ys:=ys) 9998 hk n 0 l m r he (by
     have:=px.1
     rw[Cq,fo (by omega)];exact px) (by
     have:=py.1;rw[Cq,fo (by omega)];exact py)
    rw[show(10000:Nat)=9998+1+1 from rfl,Op.equalIn];simp only[Sem.run_bind,run_underlying hu,Result.andThen_ok,s1];rw[Std.Legacy.Range.forIn_eq_forIn_range'];simp only[Std.Legacy.Range.size,Nat.sub_zero,Nat.add_sub_cancel,Nat.div_one];rw[ha];cases r<;>rfl
   ·cases hf
  ·cases hf
theorem Jh(aq:eU g lb ev a)(hm:bc g own LC mem w)(hl:cz g lb own loc w)(ho:bT base own w){op:BinOp}{t ty:TypeId}{x y:Operand}(Ξ:o.op= .binOp op t x y ty)
  {x' y':br} (hx:cB x=some x') (hy:cB y=some y') {ks:List KK} (hf:C9 P t=some ks) {neg:Bool} (hn:op=if neg then .neq else .eql)
  (hr:aI ev loc mem ay o.dst (.eqs neg ks x' y')=some (v,u,m')):rA P base LC g lb own loc w a o v u m':=by
 simp only[aI]at hr;split at hr
 ·rename_i l m e1 e2;simp only[bD,aA]at hr;obtain⟨r,hr,rfl,rfl,rfl⟩:=hr;have k1:=aq _ _ hx;have k2:=aq _ _ hy;rw[e1]at k1;rw[e2]at k2;cases bG:a.eval x<;>rw[bG]at k1<;>(try(cases k1;done));cases vV:a.eval y<;>rw[vV]at k2<;>(try(cases k2;done));obtain⟨h1,h2⟩:=abt (P:=P) (w:=w) hf k1 k2 hr;refine .pure (x:= .bool (if neg then !r else r)) hm hl ho ?_ (.bool _ _);cases neg<;>simp only[jV,if_false,if_true]at hn<;>subst hn
  ·simp only[execOp,Ξ,bG,vV,Sem.run_bind,run_eqGuard_agg w .eql t x y _ _ h1,Result.andThen_ok,run_eql_struct,h2];rfl
  ·simp only[execOp,Ξ,bG,vV,Sem.run_bind,run_eqGuard_agg w .neq t x y _ _ h1,Result.andThen_ok,run_neq_struct,h2];rfl
 ·cases hr
theorem ag3(aq:eU g lb ev a)(hm:bc g own LC mem w)(hl:cz g lb own loc w)(ho:bT base own w){t:TypeId}{x y z:Operand}(Ξ:o.op= .insert t x y z)
  :gI P bj base LC g lb own loc mem w ay ev a o ao v u m':=fun hc hr=>by
 have e1:cV P bj {o with op:= .mapUpdate t x y z}=some ao:=by rw[<-hc];simp only[cV,Ξ]
 have e2:execOp a.eval o=execOp a.eval {o with op:= .mapUpdate t x y z}:=by simp only[execOp,Ξ]
 have:=WU (o:= {o with op:= .mapUpdate t x y z}) aq hm hl ho rfl e1 hr;unfold rA at this⊢;rw[e2];exact this
theorem aha(hm:bc g own LC mem w)(hl:cz g lb own loc w)(ho:bT base own w){t:TypeId}{r:Operand}(Ξ:o.op= .makeMap t (some r))
  :gI P bj base LC g lb own loc mem w ay ev a o ao v u m':=fun hc hr=>by
 cases r with
 |const c=>
  cases c with
  |int k n=>
   simp only[cV,Ξ]at hc
   split at hc
   ·rename_i kt et hu;cases hc;have e1:cV P bj {o with op:= .makeMap t none}=some .mkmap:=by simp only[cV]
    have e2:(execOp a.eval o).run P w=(execOp a.eval {o with op:= .makeMap t none}).run P w:=by simp only[execOp,Ξ,qx,Option.map_none,Instr.makeMap,Act.eval,Sem.run_bind,run_underlying hu,Result.andThen_ok,asInt,asIntOf,Sem.run_pure]
    have:=WW (a:=a) (o:= {o with op:= .makeMap t none}) hm hl ho rfl e1 hr;unfold rA at this⊢;rw[e2];exact this
   ·cases hc
  |_=>simp only[cV,Ξ]at hc;cases hc
 |_=>simp only[cV,Ξ]at hc;cases hc
theorem ahh(aq:eU g lb ev a)(hm:bc g own LC mem w)(hl:cz g lb own loc w)(ho:bT base own w)(hc:cV P bj o=some ao)(zk:∀f args,ao≠ .call f args/\ao≠ .callz f args)
  (hr:aI ev loc mem ay o.dst ao=some (v,u,m')):rA P base LC g lb own loc w a o v u m':=by
 cases Ξ:o.op with
 |move x=>exact WX aq hm hl ho (.inl Ξ) hc hr
 |assign x=>exact WX aq hm hl ho (.inr Ξ) hc hr
 |pick c x y=>exact ahe aq hm hl ho Ξ hc hr
 |alloc e=>exact agN hm hl ho Ξ hc hr
 |box e x=>exact agR aq hm hl ho Ξ hc hr
 |build t ps=>exact agT aq hm hl ho Ξ hc hr
 |buildSlice t n ps=>exact agS aq hm hl ho Ξ hc hr
 |load t x=>exact ag5 aq hm hl ho Ξ hc hr
 |store t x y=>exact ahi aq hm hl ho Ξ hc hr
 |nilCheck x=>exact ahc aq hm hl ho Ξ hc hr
 |unOp op t x=>exact ahj aq hm hl ho Ξ hc hr
 |convert s d x=>exact agV aq hm hl ho Ξ hc hr
 |makeInterface t x=>exact ag_ aq hm hl ho Ξ hc hr
 |makeFunc f x y=>exact ag9 aq hm hl ho Ξ hc hr
 |fieldAddr s x f=>exact agZ aq hm hl ho Ξ hc hr
 |field s x f=>exact ag0 aq hm hl ho Ξ hc hr
 |indexAddr t x i=>exact ag1 aq hm hl ho Ξ hc hr
 |index t x i=>exact ag4 aq hm hl ho Ξ hc hr
 |lookup t x i ok=>exact ag7 aq hm hl ho Ξ hc hr
 |mapUpdate t x y z=>exact WU aq hm hl ho Ξ hc hr
 |slice t x lo hi mx=>exact ahg aq hm hl ho Ξ hc hr
 |extract x k=>exact agY aq hm hl ho Ξ hc hr
 |range t x=>exact ahf aq hm hl ho Ξ hc hr
 |makeMap t r=>
  cases r with
  |none=>exact WW hm hl ho Ξ hc hr
  |some r=>exact aha hm hl ho Ξ hc hr
 |insert t x y z=>exact ag3 aq hm hl ho Ξ hc hr
 |next x b=>
  cases b with
  |true=>exact ahd aq hm hl ho Ξ hc hr
  |false=>simp only[cV,Ξ]at hc;cases hc
 |binOp op t x y ty=>
  have Bn:=hc
  simp only[cV,Ξ]at hc;split at hc
  ·rename_i h1 h2 h3;cases hc;exact WS aq hm hl ho Ξ h2 h3 hr
  ·rename_i h1 h2 h3;cases hc;exact WS aq hm hl ho Ξ h2 h3 hr
  ·rename_i h1 h2 h3;split at hc
   ·cases hc;exact WT aq hm hl ho Ξ h2 h3 h1 (neg:=false) rfl hr
   ·cases hc;exact WT aq hm hl ho Ξ h2 h3 h1 (neg:=true) rfl hr
   ·cases hc
  ·rename_i h1 h2 h3;split at hc
   ·rename_i hf;cases hc;exact Jh aq hm hl ho Ξ h2 h3 hf (neg:=false) rfl hr
   ·rename_i hf;cases hc;exact Jh aq hm hl ho Ξ h2 h3 hf (neg:=true) rfl hr
   ·cases hc
  ·rename_i h1 h2 h3;split at hc
   ·rename_i hf;cases hc;exact Jh aq hm hl ho Ξ h2 h3 hf (neg:=false) rfl hr
   ·rename_i hf;cases hc;exact Jh aq hm hl ho Ξ h2 h3 hf (neg:=true) rfl hr
   ·cases hc
  ·rename_i h1 h2 h3;exact EK aq hm hl ho Ξ h2 hc (fun v hv=>⟨⟨_,h1⟩,hv⟩) hr
  ·rename_i h1 h2 h3;exact EK aq hm hl ho Ξ h2 hc (fun v hv=>⟨⟨_,h1⟩,hv⟩) hr
  ·rename_i h1 h2 h3;exact EK aq hm hl ho Ξ h2 hc (fun v hv=>⟨⟨_,_,_,h1⟩,hv⟩) hr
  ·rename_i h1 h2 h3;exact EK aq hm hl ho Ξ h2 hc (fun v hv=>⟨⟨_,h1⟩,hv⟩) hr
  ·rename_i h1 h2 h3;exact EK aq hm hl ho Ξ h2 hc (fun v hv=>⟨⟨_,_,h1⟩,hv⟩) hr
  ·cases hc
 |makeSlice t x y=>exact ahb aq hm hl ho Ξ hc hr
 |call c=>
  cases hb:c.callee with
  |value f=>
   simp only[cV,Ξ,hb]at hc
   split at hc
   ·by_cases rW:L0 bj o.dst=true
    ·rw[if_pos rW]at hc;split at hc
     ·cases hc;exact absurd rfl (zk _ _).1
     ·cases hc;simp[aI]at hr
    rw[if_neg rW]at hc;by_cases mT:AY bj o.dst=true
    ·rw[if_pos mT]at hc;cases hc;exact absurd rfl (zk _ _).2
    ·rw[if_neg mT]at hc;cases hc;exact absurd rfl (zk _ _).1
   ·cases hc
  |invoke r n=>simp only[cV,Ξ,hb]at hc;cases hc
  |builtin b=>
   cases b<;>first
    |exact agP aq hm hl ho Ξ hb hc hr
    |exact ag6 aq hm hl ho Ξ hb hc hr
    |exact agX aq hm hl ho Ξ hb hc hr
    |exact agW aq hm hl ho Ξ hb hc hr
    |exact agU aq hm hl ho Ξ hb hc hr
    |exact WV aq hm hl ho Ξ (.inl hb) hc hr
    |exact WV aq hm hl ho Ξ (.inr hb) hc hr
    |(simp only[cV,Ξ,hb]at hc;cases hc)
 |_=>simp only[cV,Ξ]at hc;cases hc
end
structure KM (m m':Mem):Prop where
 len:m.ε.length<=m'.ε.length
 η:∀id,id∈m.η->id∈m'.η
 cells:∀id l',m'.ε[id]?=some (.cells l')->id<m.ε.length->id∉m'.η->∀v∈l',(∃l,m.ε[id]?=some (.cells l)/\v∈l)\/lo id v=true
theorem KM.refl(m:Mem):KM m m:=⟨bS _,fun _ h=>h,fun _ l' h _ _ _ hv=> .inl ⟨l',h,hv⟩⟩
theorem KM.trans{a b c:Mem}(h:KM a b)(k:KM b c):KM a c:= {
 len:=va h.len k.len
 η id hid:=k.η id (h.η id hid)
 cells id l' hl hid o_ v hv:=by
  rcases k.cells id l' hl (ku hid h.len) o_ v hv with⟨l,h1,h2⟩|h1
  ·exact h.cells id l h1 hid (fun hn=>o_ (k.η id hn)) v h2
  ·exact .inr h1}
theorem KM.push(m:Mem)(b:θ):KM m (m.push b):= {
 len:=by simp[Mem.push]
 η _ h:=h
 cells id l' hl hid _ v hv:=by simp only[Mem.push]at hl;rw[ek hid]at hl;exact .inl ⟨l',hl,hv⟩}
theorem KM.set{m:Mem}{i:Nat}{b:θ}(hb:∀l,b≠ .cells l)(t:Bool):KM m (m.put i b t):= {
 len:=by simp[Mem.put]
 η id h:=by simp only[Mem.put];split<;>simp[h]
 cells id l' hl _ _ v hv:=by
  simp only[Mem.put,wH]at hl;split at hl
  ·split at hl
   ·cases hl;exact absurd rfl (hb _)
   ·cases hl
  ·exact .inl ⟨l',hl,hv⟩}
def KC(c:cx):Prop:=∀fv args m r m',c fv args m=some (r,m')->KM m m'
theorem P5{lk mem p vs u m'}(h:wr lk mem p vs=some (u,m')):KM mem m':=by
 unfold wr at h;split at h
 ·split at h
  ·split at h
   ·simp only[bh,aA]at h;rw[<-h.2];exact KM.refl _
   ·cases h
  ·cases h
 ·split at h
  ·rename_i id off _ l hb;split at h
   ·simp only[bh,aA]at h;rw[<-h.2];refine⟨by simp[Mem.put],fun i hi=>by simp only[Mem.put];split<;>simp[hi],fun i l' hl hi o_ v hv=>?_⟩;simp only[Mem.put,wH]at hl o_;split at hl
    ·rename_i zb;subst zb;split at hl
     ·simp only[bh,θ.cells.injEq]at hl;subst hl;have jN:ba id (vs.map mem.ν)=true:=by
       cases hc:ba id (vs.map mem.ν)with
       |true=>rfl
       |false=>rw[hc]at o_;simp at o_
      unfold dk at hv;rcases dT.1 hv with hv|hv
      ·rcases dT.1 hv with hv|hv
       ·exact .inl ⟨l,hb,qt hv⟩
       ·right;rw[mn,dO]at jN;exact jN v hv
      ·exact .inl ⟨l,hb,tW hv⟩
     ·omega
    ·exact .inl ⟨l',hl,hv⟩
   ·cases h
  ·cases h
 ·cases h
theorem WE{lk mem oU dst l v u m'}(h:newVar lk mem oU dst l=some (v,u,m')):KM mem m':=by
 unfold newVar at h;split at h
 ·simp only[bh,aA]at h;rw[<-h.2.2];exact KM.push _ _
 ·split at h
  ·simp only[bh,aA]at h;rw[<-h.2.2];exact KM.refl _
  ·cases h
theorem YS{mem ag sz bytes e x y v m'}(h:gC mem ag sz bytes e x y=some (v,m')):KM mem m':=by
 unfold gC at h;split at h
 ·split at h
  ·split at h
   ·simp only[bh,aA]at h;rw[<-h.2];exact KM.refl _
   ·simp only[bh,aA]at h;rw[<-h.2];exact KM.push _ _
   ·simp only[bh,aA]at h;rw[<-h.2];exact KM.push _ _
   ·split at h
    ·split at h
     ·simp only[bh,aA]at h;rw[<-h.2];exact KM.set (fun _ h=>by cases h) _
     ·cases h
    ·cases h
   ·cases h
  ·cases h
 ·cases h
theorem YR{mem ag sz bytes x y v m'}(h:wJ mem ag sz bytes x y=some (v,m')):KM mem m':=by
 unfold wJ at h;split at h
 ·split at h
  ·split at h
   ·simp only[bh,aA]at h;rw[<-h.2];exact KM.refl _
   ·simp only[bh,aA]at h;rw[<-h.2];exact KM.push _ _
  ·cases h
 ·cases h
theorem abH{mem v v' m'}(h:fz mem v=some (v',m')):KM mem m':=by
 unfold fz at h;split at h
 ·simp only[bh,aA]at h;rw[<-h.2];exact KM.refl _
 ·split at h
  ·split at h
   ·simp only[bh,aA]at h;rw[<-h.2];exact KM.set (fun _ h=>by cases h) _
   ·cases h
  ·cases h
 ·cases h
theorem Y8{ev lk mem dst o v u m'}{c:cx}(hc:KC c)(h:aI ev lk mem c dst o=some (v,u,m')):KM mem m':=by
 cases o<;>simp only[aI]at h
 case bad=>cases h
 case alloc=>exact WE h
 case box=>
  split at h
  ·exact WE h
  ·cases h
 case st=>
  split at h
  ·simp only[bD,aA,Prod.exists]at h;obtain⟨_,_,h1,_,_,rfl⟩:=h;exact P5 h1
  ·cases h
 case mapup=>
  (repeat' split at h)<;>first|(cases h;done)|skip
  simp only[bD,aA]at h;obtain⟨_,_,_,_,rfl⟩:=h;exact KM.set (fun _ h=>by cases h) _
 case del=>
  (repeat' split at h)<;>first|(cases h;done)|skip
  simp only[bD,aA]at h;obtain⟨_,_,_,_,rfl⟩:=h;exact KM.set (fun _ h=>by cases h) _
 case abld=>simp only[bh,aA]at h;rw[<-h.2.2];exact KM.push _ _
 case mkmap=>simp only[bh,aA]at h;rw[<-h.2.2];exact KM.push _ _
 case mkslc=>
  (repeat' split at h)<;>first|(cases h;done)|skip
  simp only[bh,aA]at h;rw[<-h.2.2];exact KM.push _ _
 case cpy=>
  (repeat' split at h)<;>first|(cases h;done)|skip
  simp only[bD,aA,Prod.exists]at h;obtain⟨_,_,h1,_,_,rfl⟩:=h;exact P5 h1
 case clr=>
  split at h
  ·simp only[bh,aA]at h;rw[<-h.2.2];exact KM.refl _
  ·split at h
   ·simp only[bh,aA]at h;rw[<-h.2.2];exact KM.refl _
   ·simp only[bD,aA,Prod.exists]at h;obtain⟨_,_,h1,_,_,rfl⟩:=h;exact P5 h1
  ·cases h
 case call=>
  simp only[bD,aA,Prod.exists]at h
  obtain⟨_,_,h1,_,_,rfl⟩:=h;exact hc _ _ _ _ _ h1
 case app=>
  simp only[bD,aA,Prod.exists]at h
  obtain⟨_,_,h1,_,_,rfl⟩:=h;exact YS h1
 case appm=>
  simp only[bD,aA,Prod.exists]at h
  obtain⟨_,_,h1,_,_,rfl⟩:=h;exact YR h1
 case callz=>
  split at h
  ·rename_i h0;simp only[bD,aA,Prod.exists]at h;obtain⟨_,_,h1,_,_,rfl⟩:=h;exact(hc _ _ _ _ _ h0).trans (abH h1)
  ·cases h
 all_goals
  (repeat' split at h)<;>first
   |(cases h;done)
   |(simp only[bh,aA]at h;obtain⟨_,_,rfl⟩:=h;exact KM.refl _)
   |(simp only[bD,aA]at h;obtain⟨_,_,_,_,rfl⟩:=h;exact KM.refl _)
   |(simp only[bD]at h;obtain⟨_,_,h⟩:=h;(repeat' split at h)<;>(simp only[aA]at h;obtain⟨_,_,rfl⟩:=h;exact KM.refl _))
theorem Zf{gl o s s'}{c:cx}(hc:KC c)(h:dP gl c o s=some s'):KM s.mem s'.mem:=by
 unfold dP at h;split at h
 ·cases h
 ·split at h
  ·rename_i he;cases h;exact Y8 hc he
  ·cases h
 ·cases h;exact KM.refl _
theorem Qt{gl l s s'}{c:cx}(hc:KC c)(h:dY gl c l s=some s'):KM s.mem s'.mem:=by
 induction l generalizing s with
 |nil=>cases h;exact KM.refl _
 |cons o l ih=>
  simp only[dY]at h
  split at h
  ·rename_i he;exact(Zf hc he).trans (ih h)
  ·cases h
theorem Ks{gl l s tr}{c:cx}(h:ew gl c l s=some tr):tr.length=l.length+1/\tr[0]?=some s/\tr.getLast?=dY gl c l s∧
  ∀i (hi:i<l.length),∃si X1,tr[i]?=some si/\tr[i+1]?=some X1/\dP gl c l[i] si=some X1:=by
 induction l generalizing s tr with
 |nil=>cases h;exact⟨rfl,rfl,rfl,fun i hi=>by simp at hi⟩
 |cons o l ih=>
  simp only[ew]at h
  split at h
  ·rename_i s' he;simp only[bD]at h;obtain⟨tr',h1,rfl⟩:=h;obtain⟨k1,k2,k3,k4⟩:=ih h1;refine⟨by simp[k1],rfl,?_,fun i hi=>?_⟩
   ·simp only[dY,he,<-k3];cases tr' with
    |nil=>simp at k1
    |cons a t=>simp
   ·cases i with
    |zero=>exact⟨s,s',rfl,by simpa using k2,he⟩
    |succ i=>simpa using k4 i (by simpa using hi)
  ·cases h
theorem YZ{gl l cf af s s'}{c:cx}(h:e_ gl c l cf af s=some s'):dY gl c l s=some s':=by
 unfold e_ at h;split at h
 ·rename_i tr BD;split at h
  ·rw[<-(Ks BD).2.2.1];exact h
  ·cases h
 ·cases h
theorem XW{n:Nat}:∀(t:List Nat) (bs:List θ) (id:Nat),id∉t->(lV n t bs)[id]?=bs[id]?
 |[],_,_,_=>rfl
 |i::t,bs,id,h=>by
  simp only[cy,not_or]at h;simp only[lV];rw[XW t _ id h.2];split
  ·rw[List.getElem?_set_ne (fun e=>h.1 e.symm)]
  ·rfl
theorem XV{n:Nat}:∀(t:List Nat) (bs:List θ),(lV n t bs).length=bs.length
 |[],_=>rfl
 |i::t,bs=>by simp only[lV];rw[XV t];split<;>simp
theorem Kx{m0 m:Mem}(h:m0.ε.length<=m.ε.length):(m0.back m).ε.length=m0.ε.length:=by simp only[Mem.back,XV,lD];omega
theorem QF{m0 m:Mem}(hlen:m0.ε.length<=m.ε.length)
  (hc:∀id l',m.ε[id]?=some (.cells l')->id<m0.ε.length->id∉m.η->∀v∈l',(∃l,m0.ε[id]?=some (.cells l)/\v∈l)\/lo id v=true):KM m0 (m0.back m):= {
 len:=by rw[Kx hlen];exact bS _
 η id h:=by simp only[Mem.back];exact At _ h
 cells id l' hl hid o_ v hv:=by
  simp only[Mem.back]at hl o_;by_cases ht:id∈m.η
  ·have ep:ba id l'=true:=by
    cases hc:ba id l' with
    |true=>rfl
    |false=>
     exfalso;apply o_
     refine Ct _ (Au.2 ⟨ht,?_⟩);rw[hl];simp[θ.clean,hc]
   rw[mn,dO]at ep;exact .inr (ep v hv)
  ·rw[XW _ _ _ ht,Ar]at hl;rw[if_pos hid]at hl;exact hc id l' hl hid ht v hv}
def Kf(lp:pJ):Prop:=∀b:St->Option (Ex×St),(∀s e s',b s=some (e,s')->KM s.mem s'.mem)->∀s e s',lp b s=some (e,s')->KM s.mem s'.mem
theorem FB(n:Nat):Kf (fV n):=by
 intro b hb s e s' h;induction n generalizing s with
 |zero=>simp[fV]at h
 |succ n ih=>
  simp only[fV]at h
  split at h
  ·rename_i he;exact(hb _ _ _ he).trans (ih _ h)
  ·exact hb _ _ _ h
theorem aiz{d:Nat}{s s':St}(h:ES d s=some s'):KM s.mem s'.mem:=by
 unfold ES at h
 (repeat' split at h)<;>first|(cases h;done)|(cases h;exact KM.push _ _)
theorem Xq:∀{l:List Nat} {s s':St},BX l s=some s'->KM s.mem s'.mem
 |[],s,s',h=>by cases h;exact KM.refl _
 |d::l,s,s',h=>by
  simp only[BX]at h;split at h
  ·rename_i h1;exact(aiz h1).trans (Xq h)
  ·cases h
theorem yK{gl}{c:cx}{lp:pJ}(hc:KC c)(hl:Kf lp)(a:AC):∀s e s',exec gl c lp a s=some (e,s')->KM s.mem s'.mem:=by
 induction a with
 |skip=>intro s e s' h;cases h;exact KM.refl _
 |ops l=>
  intro s e s' h
  simp only[exec,bD,aA]at h;obtain⟨_,h1,_,rfl⟩:=h;exact Qt hc h1
 |draw l cf af=>
  intro s e s' h
  simp only[exec,bD,aA]at h;obtain⟨_,h1,_,rfl⟩:=h;exact Qt hc (YZ h1)
 |seq a b dM gx=>
  intro s e s' h
  simp only[exec]at h;split at h
  ·rename_i he;exact(dM _ _ _ he).trans (gx _ _ _ h)
  ·exact dM _ _ _ h
 |cond x a b dM gx=>
  intro s e s' h
  simp only[exec]at h;split at h
  ·split at h
   ·exact dM _ _ _ h
   ·exact gx _ _ _ h
  ·cases h
 |block id a dM=>
  intro s e s' h
  simp only[exec]at h;split at h
  ·rename_i he;split at h<;>(cases h;exact dM _ _ _ he)
  ·exact dM _ _ _ h
 |loop a dM=>intro s e s' h;exact hl _ dM _ _ _ h
 |exit id=>intro s e s' h;cases h;exact KM.refl _
 |ret=>intro s e s' h;cases h;exact KM.refl _
 |B6 f ps fQ body _ _=>
  intro s e s' h
  simp only[exec]at h;split at h
  ·rename_i r m iR;obtain⟨fv,_,iR⟩:=Cv.1 iR;have hk:=hc _ _ _ _ _ iR;have xp:KM s.mem (s.mem.back m):=by
    have hlen:=hk.len;simp only[List.length_append,cD,eO]at hlen;refine QF (by omega) (fun id l' hl hid o_ v hv=>?_);rcases hk.cells id l' hl (by simp;omega) o_ v hv with⟨l,h1,h2⟩|h1
    ·rw[ek hid]at h1;exact .inl ⟨l,h1,h2⟩
    ·exact .inr h1
   split at h<;>first|(cases h;exact xp)|cases h
  ·cases h
 |ER ds=>
  intro s e s' h
  simp only[exec,bD,aA]at h;obtain⟨_,h1,_,rfl⟩:=h;exact Xq h1
 |bad=>intro s e s' h;cases h
theorem Ca(m:Mem)(l:Nat)(st:LS):KM m (m.i_ l st):=by
 unfold Mem.i_;split
 ·exact KM.set (t:=true) (fun _ h=>by cases h)
 ·exact KM.refl _
theorem aja{gl}{c:cx}{lp:pJ}(hc:KC c)(hl:Kf lp){l args mem r m'}(h:round (exec gl c lp) l args mem=some (r,m')):KM mem m':=by
 unfold round at h;split at h
 ·split at h
  ·split at h
   ·rename_i he;have h1:=yK hc hl _ _ _ _ he;split at h
    ·split at h
     ·rename_i l_;have h2:=yK hc hl _ _ _ _ l_;split at h
      ·cases h;exact h1.trans ((Ca _ _ _).trans (h2.trans (Ca _ _ _)))
      ·cases h
     ·rename_i l_;have h2:=yK hc hl _ _ _ _ l_;split at h
      ·cases h;exact h1.trans ((Ca _ _ _).trans (h2.trans (Ca _ _ _)))
      ·cases h
     ·rename_i l_;have h2:=yK hc hl _ _ _ _ l_;split at h
      ·cases h;exact h1.trans ((Ca _ _ _).trans (h2.trans (Ca _ _ _)))
      ·cases h
     ·cases h
    ·cases h
   ·cases h
  ·cases h
 ·cases h
theorem Tb{g:AF}{k:Bool}{m0:Mem}{ex:Ex}{s:St}{r m'}(h:fin g k m0 (some (ex,s))=some (r,m'))(hk:KM {ε:=m0.ε,η:=[]} s.mem):KM m0 m':=by
 have key:∀r m',(match cK s g.results with
   |some l=>if k then some (exp s.mem.ε.length true (cL l),({ε:=s.mem.ε,η:=m0.η++s.mem.η}:Mem))
    else some (aO s.mem.ε m0.ε.length 8 (cL l),m0.back s.mem)
   |none=>none)=some (r,m')->KM m0 m':=by
  intro r m' h;split at h
  ·split at h
   ·simp only[bh,aA]at h;rw[<-h.2];exact⟨hk.len,fun id hid=>At _ hid,fun id l' hl hid o_ v hv=>hk.cells id l' hl hid (fun hn=>o_ (Ct _ hn)) v hv⟩
   ·simp only[bh,aA]at h;rw[<-h.2];exact QF hk.len (fun id l' hl hid o_ v hv=>hk.cells id l' hl hid o_ v hv)
  ·cases h
 cases ex with
 |exit id=>simp[fin]at h
 |normal=>exact key r m' h
 |ret=>exact key r m' h
theorem Lr(C:iL)(hp:∀f p,C.gQ f=some p->∀args m r m',p args m=some (r,m')->KM m m')(n:Nat):KC (cv C n):=by
 induction n with
 |zero=>intro fv args m r m' h;simp[cv]at h
 |succ n ih=>
  intro fv args m r m' h
  simp only[cv,body]at h;split at h
  ·split at h
   ·rename_i p hpp;exact hp _ _ hpp _ _ _ _ h
   ·split at h
    ·rename_i g hg;generalize he:exec C.gl (cv C n) (fV n) g.code _=x at h;cases x with
     |none=>simp[fin]at h
     |some x=>
      obtain⟨ex,s⟩:=x
      exact Tb h (yK ih (FB n) _ _ _ _ he)
    ·cases h
  ·split at h
   ·rename_i g hg;generalize he:exec C.gl (cv C n) (fV n) g.code _=x at h;cases x with
    |none=>simp[fin]at h
    |some x=>
     obtain⟨ex,s⟩:=x
     exact Tb h (yK ih (FB n) _ _ _ _ he)
   ·cases h
  ·exact aja ih (FB n) h
  ·cases h
section
variable(P:Program)(bj:Nat->Bool)(N:Nat)
def KV(ops:Array Oper):Option (Nat×Bool)->Option (Option (Nat×Bool))
 |none=>some none
 |some (j,want)=>match(ops[j]?).bind (·.dst)with
  |some d=>if d<N then some (some (d,want))else none
  |none=>none
def Lu:Option Nat->Bool
 |none=>true
 |some d=>decide (d<N)
def FQ(ops:Array Oper)(o:Oper):Option aW:=match KV N ops o.guard with
 |some gd=>if Lu N o.dst then some {dst:=o.dst,op:=Sl P bj o,guard:=gd}else none
 |none=>none
def uc(ops:Array Oper):List Oper->Option (List aW)
 |[]=>some []
 |o::l=>match FQ P bj N ops o,uc ops l with
  |some x,some m=>some (x::m)
  |_,_=>none
end
def ni(g:Gh)(gl:Nat->AV):Prop:=∀n,VR g bV (gl n) (.pointer (some ⟨n,0,none⟩))
def zI(r:Nat):Deferred:= {target:= .collected r,args:= #[]}
def Marks(cW:Nat)(own:OW)(w:World)(ds:List Deferred):Prop:=
 cW<=w.heap.size/\∃ms:List Nat,ms.Nodup/\ds=ms.map zI/\∀r∈ms,cW<=r/\r<w.heap.size/\own r=none/\w.heap[r]?=some (.deferred (some []))
theorem Marks.nil{cW:Nat}{own:OW}{w:World}(h:cW<=w.heap.size):Marks cW own w []:=⟨h,[],List.nodup_nil,rfl,fun r hr=>by cases hr⟩
theorem Marks.bf{cW:Nat}{g g':Gh}{own aD:OW}{w w':World}{ds:List Deferred}(h:Marks cW own w ds)(hs:eE g own w g' aD w'):Marks cW aD w' ds:=by obtain⟨h0,ms,h1,h2,h3⟩:=h;refine⟨va h0 hs.size,ms,h1,h2,fun r hr=>?_⟩;obtain⟨k1,k2,k3,k4⟩:=h3 r hr;exact⟨k1,ku k2 hs.size,hs.jI r k2 k3,(hs.bf r k2 k3).trans k4⟩
structure SR (gl:Nat->AV) (base N:Nat) (LC:eY) (cW:Nat) (g:Gh) (lb:LB) (own:OW) (s:St) (a:Act) (w:World):Prop where
 env:∀t,VR g lb (aK s.env t) (a.tmps.getD t undef)
 gl:ni g gl
 size:N<=a.tmps.size
 defers:Marks cW own w a.defers
 mem:bc g own LC s.mem w
 loc:cz g lb own (bQ s.loc) w
 own:bT base own w
def eD(own:OW):OW:=fun b=>match own b with
 |some (.m id)=>some (.m id)
 |_=>none
def tS(F:Fence)(n:Nat)(P:Program)(fx:Value)(bK:Array Value)(w:World)(R:Value->World->Prop):Prop:=
 (∃(f:FuncId) (as:Array Value),(do let d<-Deferred.ofValue fx bK;invoke d.target d.args:Sem Next).run P w= .ok (.enter f as) w/\CallsIn F n P f as w fun e w'=>∃x,e= .returned x/\R x w')∨
 (∃x w',(do let d<-Deferred.ofValue fx bK;invoke d.target d.args:Sem Next).run P w= .ok (.value x) w'/\R x w')∨
 (∃(l:Nat) (f:FuncId) (tmps:Array Value) (assign body:Code),(do let d<-Deferred.ofValue fx bK;invoke d.target d.args:Sem Next).run P w= .ok (.round l f tmps assign body) w∧
  RoundIn F n P l f tmps assign body w fun e w'=>∃x,e= .returned x/\R x w')
def lW(base:Nat)(LC:eY)(gl:Nat->AV)(g:Gh)(own:OW)(w:World)(r:AV)(m':Mem)(x:Value)(w':World):Prop:=
 ∃(g':Gh) (aD:OW),eE g (eD own) w g' aD w'/\bc g' aD LC m' w'/\VR g' bV r x/\bT base aD w'/\(∀b d,aD b≠some (.l d))/\ni g' gl
def nS(F:Fence)(P:Program)(base:Nat)(LC:eY)(gl:Nat->AV)(ay:cx):Prop:=
 ∀(n:Nat) (g:Gh) (lb:LB) (own:OW) (mem:Mem) (w:World) (fv:AV) (args:List AV) (r:AV) (m':Mem) (fx:Value) (bK:Array Value),
  bc g own LC mem w->bT base own w->ni g gl->VR g lb fv fx->PW (VR g lb) args bK.toList->ay fv args mem=some (r,m')→
  tS F n P fx bK w (lW base LC gl g own w r m')
section
variable{F:Fence}{n:Nat}{P:Program}{bj:Nat->Bool}{N:Nat}{gl:Nat->AV}{base:Nat}{LC:eY}{cW:Nat}{g:Gh}{lb:LB}{own:OW}{s s':St}{a:Act}{w:World}{ay:cx}
variable{ops:Array Oper}{Q:Exit->Act->World->Prop}
theorem ni.mono{g':Gh}(h:ni g gl)(hs:g.sub g'):ni g' gl:=fun n=>(h n).sub hs
theorem SR.ev(h:SR gl base N LC cW g lb own s a w):eU g lb (dw gl s.env) a:=by
 intro x x' hx;cases x with
 |tmp t=>cases hx;exact h.env t
 |const v=>
  simp only[cB,bD]at hx
  obtain⟨av,MN,rfl⟩:=hx;exact Kn MN
 |global i=>
  cases hx
  exact(h.gl i).mono g.eS fun _ _ _ h=>by cases h
 |func f=>
  cases hx
  exact .fn _ _ _ _ _ _ _ rfl rfl rfl (fun i hi=>by simp at hi) (fun i hi=>by simp at hi)
theorem abL(a:Act)(dst:Option Nat)(v:Value)(hd:∀d,dst=some d->d<a.tmps.size)(t:Nat):
  (a.put dst v).tmps.getD t undef=if dst=some t then v else a.tmps.getD t undef:=by
 cases dst with
 |none=>simp[Act.put]
 |some d=>
  have:=hd d rfl
  simp only[Act.put,oK,amh,bh];by_cases h:d=t
  ·subst h;simp[this]
  ·simp[h]
theorem vk(env:List AV)(dst:Option Nat)(v:AV)(t:Nat):aK (fA env dst v) t=if dst=some t then v else aK env t:=by
 cases dst with
 |none=>simp[fA]
 |some d=>simp[fA,fL]
theorem Pq(a:Act)(dst:Option Nat)(v:Value):(a.put dst v).tmps.size=a.tmps.size:=by cases dst<;>simp[Act.put]
theorem aiC(a:Act)(dst:Option Nat)(v:Value):(a.put dst v).defers=a.defers:=by cases dst<;>rfl
theorem SR.after(h:SR gl base N LC cW g lb own s a w){dst:Option Nat}(hd:Lu N dst=true){v:AV}{u:kL}{m':Mem}{x:Value}{w':World}(hp:ib base LC g lb own (bQ s.loc) w v u m' x w'):
  ∃g' lb' aD,eE g own w g' aD w'/\SR gl base N LC cW g' lb' aD {env:=fA s.env dst v,loc:=eN s.loc u,mem:=m'} (a.put dst x) w':=by
 obtain⟨g',lb',aD,h1,h2,h3,h4,h5,h6⟩:=hp;have kD:∀d,dst=some d->d<a.tmps.size:=by
  rintro d rfl
  simp only[Lu,decide_eq_true_eq]at hd;exact ku hd h.size
 refine⟨g',lb',aD,h1,fun t=>?_,h.gl.mono h1.sub,by rw[Pq];exact h.size,by rw[aiC];exact h.defers.bf h1,h4,by rw[OL];exact h5,h6⟩;rw[abL a dst x kD,vk];split
 ·exact h3
 ·exact(h.env t).mono h1.sub h2
theorem Yu(h:SR gl base N LC cW g lb own s a w){o:Oper}{gd:Option (Nat×Bool)}(hg:KV N ops o.guard=some gd){b:Bool}(hw:eX s.env gd=some b):
  Region.wanted o (yielded ops a.tmps)=b:=by
 unfold Region.wanted;cases o6:o.guard with
 |none=>
  rw[o6]at hg;cases hg
  cases hw;rfl
 |some jw=>
  obtain⟨j,want⟩:=jw
  rw[o6]at hg;simp only[KV]at hg;split at hg
  ·rename_i d hd;split at hg
   ·rename_i hdn;cases hg;simp only[eX]at hw;have ψ:d<a.tmps.size:=ku hdn h.size;have hv:=h.env d;have ma:a.tmps[d]?=some (a.tmps.getD d undef):=by simp[oK,ψ]
    simp only[yielded,hd,Option.bind_some,ma];generalize a.tmps.getD d undef=x at hv;split at hw
    ·rename_i b' he;rw[he]at hv;cases hv;cases hw;rfl
    ·rename_i he;rw[he]at hv;cases hv;cases hw;rfl
    ·cases hw
   ·cases hg
  ·cases hg
theorem uP{b:Nat}{o:Own}(h:eD own b=some o):own b=some o/\∃id,o= .m id:=by
 unfold eD at h;split at h
 ·rename_i id he;cases h;exact⟨he,id,rfl⟩
 ·cases h
theorem FU(hs:SR gl base N LC cW g lb own s a w){r:AV}{m':Mem}{x:Value}{w':World}(h:lW base LC gl g own w r m' x w'):ib base LC g lb own (bQ s.loc) w r none m' x w':=by
 obtain⟨g',aD,h1,h2,h3,h4,h5,h6⟩:=h;let uN:OW:=fun b=>match own b with
  |some (.l d)=>some (.l d)
  |_=>aD b
 have hl:∀b d,own b=some (.l d)->b<w.heap.size/\eD own b=none:=fun b d hb=>⟨(hs.own.ge b _ hb).2,by simp[eD,hb]⟩;have ac0:∀b id,aD b=some (.m id)->uN b=aD b:=by
  intro b id hb;simp only[uN];split
  ·rename_i d hd;obtain⟨k1,k2⟩:=hl b d hd;rw[h1.jI b k1 k2]at hb;cases hb
  ·rfl
 have DS:∀b,own b=none->eD own b=none:=fun b hb=>by simp[eD,hb]
 refine⟨g',lb,uN,⟨h1.sub,h1.size,h1.os,h1.tape,h1.output,fun b hb ho=>h1.bf b hb (DS b ho),fun b hb ho=>?_,fun b hb ho=>h1.im b hb (DS b ho)⟩,fun _ _ _ h=>h,
  h3.mono g'.eS (fun _ _ _ h=>by cases h),?_,?_,⟨fun b o hb=>?_,h4.base⟩⟩
 ·simp only[uN,ho];exact h1.jI b hb (DS b ho)
 ·exact h2.bf g'.eS (fun _ h=>h) (fun _ _ h=>h) (fun id b hb=>⟨ac0 b id hb,rfl,fun _=>rfl⟩) h2.im
 ·exact hs.loc.bf h1.sub fun d b hb=>by obtain⟨k1,k2⟩:=hl b d hb;exact⟨by simp[uN,hb],h1.bf b k1 k2,h1.im b k1 k2⟩
 ·simp only[uN]at hb;split at hb
  ·rename_i d hd;have:=hs.own.ge b _ hd;exact⟨this.1,ku this.2 h1.size⟩
  ·exact h4.ge b o hb
theorem aaA{o:Oper}(h:cV P bj o≠none):∀c,o.op≠ .defer c:=by intro c hc;apply h;simp only[cV,hc]
def AO.CJ:AO->Option (br×List br)
 | .call f l=>some (f,l)
 | .callz f l=>some (f,l)
 |_=>none
theorem aaz{o:Oper}{f':br}{args':List br}{ao:AO}(od:ao.CJ=some (f',args'))(cH:cV P bj o=some ao):
  ∃c f,o.op= .call c/\c.callee= .value f/\(cB f=some f'\/∃k,f= .func k/\f'= .c (.fn (.methodOf k "") [] []))/\wM c.args.toList=some args':=by
 have hm:∀{α:Type} {x:Option α} {h:α->AO},x.map h=some ao->(∀y,(h y).CJ=none)->False:=fun hx hn=>by simp only[bD]at hx;obtain⟨y,_,rfl⟩:=hx;rw[hn y]at od;cases od
 have hs:∀{x:AO},some x=some ao->x.CJ=none->False:=fun hx hn=>by cases hx;rw[hn]at od;cases od
 cases Ξ:o.op with
 |call c=>
  simp only[cV,Ξ]at cH
  cases rT:c.callee with
  |value f=>
   rw[rT]at cH
   dsimp only at cH;split at cH
   ·rename_i h1 h2;by_cases rW:L0 bj o.dst=true
    ·rw[if_pos rW]at cH;split at cH
     ·cases cH;cases od;exact⟨c,_,rfl,rT,.inr ⟨_,rfl,rfl⟩,h2⟩
     ·cases cH;cases od
    rw[if_neg rW]at cH;by_cases mT:AY bj o.dst=true
    ·rw[if_pos mT]at cH;cases cH;cases od;exact⟨c,f,rfl,rT,.inl h1,h2⟩
    ·rw[if_neg mT]at cH;cases cH;cases od;exact⟨c,f,rfl,rT,.inl h1,h2⟩
   ·cases cH
  |invoke r n=>rw[rT]at cH;cases cH
  |builtin b=>
   exfalso
   rw[rT]at cH;cases b<;>dsimp only at cH<;>(try(cases cH;done))<;>(repeat' split at cH)<;>first|(cases cH;done)|exact hs cH rfl|exact hm cH (fun _=>rfl)
 |makeFunc fn x y=>
  exfalso
  cases fn<;>simp only[cV,Ξ]at cH<;>(repeat' split at cH)<;>first|(cases cH;done)|exact hs cH rfl
 |makeMap t r=>
  exfalso
  cases r with
  |none=>simp only[cV,Ξ]at cH;first|(cases cH;done)|exact hs cH rfl
  |some r=>
   cases r with
   |const c=>
    cases c with
    |int k n=>
     simp only[cV,Ξ]at cH
     (repeat' split at cH)<;>first|(cases cH;done)|exact hs cH rfl
    |_=>simp only[cV,Ξ]at cH;first|(cases cH;done)|exact hs cH rfl
   |_=>simp only[cV,Ξ]at cH;first|(cases cH;done)|exact hs cH rfl
 |next x b=>exfalso;cases b<;>simp only[cV,Ξ]at cH<;>first|(cases cH;done)|exact hs cH rfl|exact hm cH (fun _=>rfl)
 |binOp op t x y ty=>
  exfalso
  have hn:∀k x' y',vf k op x' y'≠some ao:=fun k x' y' h=>by
   unfold vf at h
   (repeat' split at h)<;>first|(cases h;done)|exact hs h rfl
  simp only[cV,Ξ]at cH
  (repeat' split at cH)<;>first|(cases cH;done)|exact hs cH rfl|exact hn _ _ _ cH
 |_=>
  exfalso
  simp only[cV,Ξ]at cH
  (repeat' split at cH)<;>first|(cases cH;done)|exact hs cH rfl|exact hm cH (fun _=>rfl)
theorem AL(s:Nat):∀(m:Nat) (l:List AV),(chunk s m l).length=m:=by
 intro m;induction m with
 |zero=>intro l;rfl
 |succ m ih=>intro l;simp[chunk,ih]
theorem FZ(s:Nat):∀(m:Nat) (l:List AV) (i:Nat) (h:i<(chunk s m l).length),(chunk s m l)[i]= .agg ((l.drop (i*s)).take s):=by
 intro m;induction m with
 |zero=>intro l i h;simp[chunk]at h
 |succ m ih=>
  intro l i h
  cases i with
  |zero=>simp[chunk]
  |succ i=>
   simp only[chunk,pF]
   rw[ih];rw[oL,kK,amc,Aw]
theorem tS.mono{F:Fence}{n:Nat}{fx:Value}{bK:Array Value}{w:World}{R R':Value->World->Prop}(h:tS F n P fx bK w R)(k:∀x w',R x w'->R' x w'):tS F n P fx bK w R':=by
 rcases h with⟨f,as,h1,h2⟩|⟨x,w',h1,h2⟩|⟨l,f,tmps,fQ,wL,h1,h2⟩
 ·exact .inl ⟨f,as,h1,h2.mono fun e w' ⟨x,h3,h4⟩=>⟨x,h3,k _ _ h4⟩⟩
 ·exact .inr (.inl ⟨x,w',h1,k _ _ h2⟩)
 ·exact .inr (.inr ⟨l,f,tmps,fQ,wL,h1,h2.mono fun e w' ⟨x,h3,h4⟩=>⟨x,h3,k _ _ h4⟩⟩)
theorem lW.fz{r r2:AV}{m1 m2:Mem}{x:Value}{w':World}(h:lW base LC gl g own w r m1 x w')(hz:Θ.fz m1 r=some (r2,m2)):lW base LC gl g own w r2 m2 x w':=by
 obtain⟨g',aD,h1,h2,h3,h4,h5,h6⟩:=h;unfold Θ.fz at hz;split at hz
 ·cases hz;exact⟨g',aD,h1,h2,h3,h4,h5,h6⟩
 ·rename_i kd id off n cp;split at hz
  ·rename_i l hl;split at hz
   ·rename_i hc;obtain⟨tc,sa⟩:=hc;simp only[bh,aA]at hz;obtain⟨rfl,rfl⟩:=hz;cases h3 with
    |sl _ _ _ _ _ _ cq b hc eG hb=>
    obtain⟨b2,k1,k2,k3,a,e,k4,k5,k6,k7⟩:=h2.blk id _ hl
    rw[hb]at k1;cases k1;let g2:Gh:= {g' with im:=fun b' o=>if b'=b then a[o]? else g'.im b' o};let qh:OW:=fun b'=>if b'=b then none else aD b';have dh:g'.sub g2:=⟨fun b' o y hy=>by
     simp only[g2]
     split
     ·rename_i he;subst he;rw[k3]at hy;cases hy
     ·exact hy,fun _ _ h=>h,fun _ _ _ h=>h⟩
    have nC:∀o y,a[o]?=some y->w'.cell? ⟨b,o,none⟩=some y:=fun o y hy=>by simp[sN,k4,hy]
    have Ux:∀b',b'<w.heap.size->eD own b'=none->b'≠b:=fun b' aY hn he=>by subst he;rw[h1.jI _ aY hn]at k2;cases k2
    refine⟨g2,qh,⟨Gh.Cf h1.sub dh,h1.size,h1.os,h1.tape,h1.output,h1.bf,fun b' aY hn=>?_,fun b' aY hn o=>?_⟩,?_,?_,⟨fun b' o aY=>?_,h4.base⟩,fun b' d aY=>?_,h6.mono dh⟩
    ·simp only[qh];split
     ·rfl
     ·exact h1.jI b' aY hn
    ·simp only[g2];rw[if_neg (Ux b' aY hn)];exact h1.im b' aY hn o
    ·have hid:id<m1.ε.length:=(fB.1 hl).1;refine h2.Ff hid dh (fun _ h=>h) (fun _ _ _ h=>h) (fun mW b' φ aY=>?_) trivial (fun b' o y hy=>?_)
     ·have rS:b'≠b:=by rintro rfl;rw[k2]at aY;cases aY;exact φ rfl
      exact⟨by simp[qh,rS],rfl,fun o=>by simp[g2,rS]⟩
     ·simp only[g2]at hy;split at hy
      ·rename_i he;subst he;exact nC o y hy
      ·exact h2.im b' o y hy
    ·have jz:∀q (h:q<a.size),g2.im b q=some a[q]/\a[q].oneCell'=true:=fun q h=>⟨by simp[g2,h],k7 q h⟩;by_cases o9:kd=0
     ·subst o9;have sa:=sa rfl;have acm:off+n<=l.length:=by have e0:ami 0 1=1:=rfl;rw[e0]at tc;omega
      simp only[dO]at sa;have uk:∀v,v∈(l.drop off).take n->v.cells=[v]:=fun v hv=>by have:=sa v hv;cases v<;>simp_all [AV.cells,AV.one]
      rw[if_pos rfl];refine .list _ .any _ b off 1 n cq (fun i _=>a.getD (off+i) undef) (by simp;omega) (by omega) trivial (fun e he=>by rw[uk e he];rfl) (fun i ae j hj=>?_) (fun i ae j hj=>?_)
      ·obtain rfl:j=0:=by omega
       have ψ:off+i<a.size:=by omega
       have:=jz (off+i) ψ;simpa[oK,ψ]using this
      ·simp at ae;have ψ:off+i<a.size:=by omega
       have Γ:l[off+i]'(by omega)∈(l.drop off).take n:=by rw[pG];exact⟨i,by simp;omega,by simp⟩
       have e1:(((l.drop off).take n)[i]'(by simp;omega))=l[off+i]'(by omega):=by simp
       have e2:=uk _ Γ;have Nk:j=0:=by have:=hj;simp only[e1,e2,cD,eO]at this;omega
       subst Nk;have:=(k6 (off+i) (by omega) ψ).sub dh;simp only[e1,e2,kJ];simpa[oK,ψ]using this
     ·have jO:ami kd 1=kd:=amj (by omega);rw[jO]at tc;rw[if_neg o9];have hbound:∀i j,i<n->j<kd->off+(i*kd+j)<l.length:=by intro i j hi hj;have:=Ej hi hj;omega
      refine .list _ .any _ b off kd n cq (fun i j=>a.getD (off+(i*kd+j)) undef) (AL _ _ _) (by omega) trivial (fun e he=>?_) (fun i ae j hj=>?_) (fun i ae j hj=>?_)
      ·obtain⟨i,jo,rfl⟩:=pG.1 he;rw[FZ];simp only[AV.cells,lD,k_];rw[AL]at jo;have h5:(i+1)*kd<=n*kd:=mD _ jo;rw[kK]at h5;omega
      ·have ψ:off+(i*kd+j)<a.size:=ku (hbound i j ae hj) k5;have:=jz _ ψ;simpa[oK,ψ]using this
      ·have jo:i<n:=by rw[AL]at ae;exact ae
       have e0:=FZ kd n (l.drop off) i ae;have uv:j<kd:=by have:=hj;rw[e0]at this;simp only[AV.cells,lD,k_]at this;omega
       have ψ:off+(i*kd+j)<a.size:=ku (hbound i j jo uv) k5;have:=(k6 _ (hbound i j jo uv) ψ).sub dh;have e1:(((chunk kd n (l.drop off))[i]'ae).cells[j]'hj)=l[off+(i*kd+j)]'(hbound i j jo uv):=by simp only[e0,AV.cells];simp[rz]
       rw[e1];simpa[oK,ψ]using this
    ·simp only[qh]at aY;split at aY
     ·cases aY
     ·exact h4.ge b' o aY
    ·simp only[qh]at aY;split at aY
     ·cases aY
     ·exact h5 b' d aY
   ·cases hz
  ·cases hz
 ·cases hz
theorem X3(hF:∀f,F.fn f)(hd:F.depth=none)(iR:nS F P base LC gl ay){i:Nat}{o:Oper}{o':aW}(hi:ops[i]?=some o)(hc:FQ P bj N ops o=some o')
  (hs:SR gl base N LC cW g lb own s a w) (Ω:dP gl ay o' s=some s') {K:Act->World->Prop}
  (hK:∀g' lb' aD a' w',eE g own w g' aD w'->SR gl base N LC cW g' lb' aD s' a' w'->K a' w'):wpOpIn F n P ops Q i K a w:=by
 unfold FQ at hc;split at hc
 ·rename_i gd o6;split at hc
  ·rename_i DC;cases hc;unfold dP at Ω;unfold wpOpIn;simp only[hi];split at Ω
   ·cases Ω
   ·rename_i hw;have xG:=Yu hs o6 hw;simp only[xG,if_true];refine⟨fun f _=>hF f,?_⟩;split at Ω
    ·rename_i v u m' he;cases Ω;dsimp only at he;unfold Sl at he;cases cH:cV P bj o with
     |none=>rw[cH]at he;simp[aI]at he
     |some ao=>
      rw[cH]at he
      simp only[Fp]at he;have ac8:Oper.semAt F.round a.eval o=execOp a.eval o:=Oper.semAt_eq _ _ _ (aaA (by rw[cH];simp));rw[ac8];by_cases ep:∃f args,ao.CJ=some (f,args)
      ·obtain⟨f',args',od⟩:=ep;have key:=aaz od cH;obtain⟨c,f,Ξ,rT,hf,iG⟩:=key;have cO:=Ga hs.ev iG;have xD:VR g lb (dw gl s.env f') (a.eval f):=by
        rcases hf with hf|⟨k,rfl,rfl⟩
        ·exact hs.ev _ _ hf
        ·exact .fn _ _ _ _ _ _ _ rfl rfl rfl (fun i hi=>by simp at hi) (fun i hi=>by simp at hi)
       obtain⟨rfl,Dy⟩:u=none/\tS F (n-1) P (a.eval f) (c.args.map a.eval) w (lW base LC gl g own w v m'):=by
        cases ao<;>simp only[AO.CJ,bh,aA]at od<;>first|(cases od;done)|skip
        ·obtain⟨rfl,rfl⟩:=od;simp only[aI]at he;split at he
         ·rename_i r m1 he0;simp only[bD,aA,Prod.exists]at he;obtain⟨r2,m2,he,rfl,rfl,rfl⟩:=he;exact⟨rfl,(iR (n-1) g lb own s.mem w _ _ _ _ (a.eval f) (c.args.map a.eval) hs.mem hs.own hs.gl xD (by simpa using cO) he0).mono fun x w' h=>h.fz he⟩
         ·cases he
        ·obtain⟨rfl,rfl⟩:=od;simp only[aI,bD,aA,Prod.exists]at he;obtain⟨r,m1,he,rfl,rfl,rfl⟩:=he;exact⟨rfl,iR (n-1) g lb own s.mem w _ _ _ _ (a.eval f) (c.args.map a.eval) hs.mem hs.own hs.gl xD (by simpa using cO) he⟩
       have ack:execOp a.eval o=(do let d<-Deferred.ofValue (a.eval f) (c.args.map a.eval);invoke d.target d.args:Sem Next):=by simp only[execOp,Ξ,resolve,rT]
       rw[ack];rcases Dy with⟨oc,as,h1,h2⟩|⟨x,w',h1,h2⟩|⟨l,oc,tmps,fQ,wL,h1,h2⟩
       ·rw[h1,Oper.uponIn_enter];refine⟨fun h=>(by rw[hd]at h;cases h),h2.mono fun e w' he=>?_⟩;obtain⟨x,rfl,hR⟩:=he;obtain⟨g',lb',aD,k1,k2⟩:=hs.after DC (FU hs hR);exact hK _ _ _ _ _ k1 k2
       ·rw[h1,Oper.uponIn_value];obtain⟨g',lb',aD,k1,k2⟩:=hs.after DC (FU hs h2);exact hK _ _ _ _ _ k1 k2
       ·rw[h1,Oper.uponIn_round];refine⟨fun h=>(by rw[hd]at h;cases h),h2.mono fun e w' he=>?_⟩;obtain⟨x,rfl,hR⟩:=he;obtain⟨g',lb',aD,k1,k2⟩:=hs.after DC (FU hs hR);exact hK _ _ _ _ _ k1 k2
      ·obtain⟨x,w',h1,h2⟩:=ahh hs.ev hs.mem hs.loc hs.own cH (fun f args=>⟨fun h=>ep ⟨f,args,by rw[h];rfl⟩,fun h=>ep ⟨f,args,by rw[h];rfl⟩⟩) he;obtain⟨g',lb',aD,k1,k2⟩:=hs.after DC h2;rcases h1 with h1|⟨h1,rfl⟩
       ·rw[h1,Oper.uponIn_value];exact hK _ _ _ _ _ k1 k2
       ·rw[h1,Oper.uponIn_skip];exact hK _ _ _ _ _ k1 k2
    ·cases Ω
   ·rename_i hw;have xG:=Yu hs o6 hw;cases Ω;simp only[xG,jV,if_false];refine⟨fun f _=>hF f,?_⟩;obtain⟨g',lb',aD,k1,k2⟩:=hs.after DC (ib.pure (x:=undef) hs.mem hs.loc hs.own (.undef lb));exact hK _ _ _ _ _ k1 k2
  ·cases hc
 ·cases hc
end
def AO.rh:AO->List br
 | .bad=>[]
 | .mv x=>[x]
 | .pick c a b=>[c,a,b]
 | .alloc _ _=>[]
 | .abld _ _=>[]
 | .box _ _ x=>[x]
 | .build _ parts=>parts.map (·.2.2)
 | .yB _ _ xs=>xs
 | .ld _ _ a=>[a]
 | .st _ a x=>[a,x]
 | .Je x=>[x]
 | .bin _ x y=>[x,y]
 | .eqs _ _ x y=>[x,y]
 | .C4 _ x y=>[x,y]
 | .Iz _ _ x=>[x]
 | .un _ x=>[x]
 | .conv _ x=>[x]
 | .OV _ x=>[x]
 | .zJ _ a b=>a++b
 | .fa _ x=>[x]
 | .C_ _ _ _ x=>[x]
 | .ia _ x i=>[x,i]
 | .Oj _ _ x i=>[x,i]
 | .On _ _ _ x i=>[x,i]
 | .pn x i=>[x,i]
 | .lookup _ _ _ m k=>[m,k]
 | .mapup _ m k v=>[m,k,v]
 | .mkmap=>[]
 | .JG _ x lo hi mx=>x::(lo.toList++hi.toList++mx.toList)
 | .JH x lo hi=>x::(lo.toList++hi.toList)
 | .ext x _=>[x]
 | .call f args=>f::args
 | .callz f args=>f::args
 | .appm _ _ _ _ x y=>[x,y]
 | .app _ _ _ _ x y=>[x,y]
 | .len x=>[x]
 | .lens x=>[x]
 | .Ew x=>[x]
 | .OJ _=>[]
 | .mkslc _ _ _ n c=>[n,c]
 | .cpy _ x y=>[x,y]
 | .clr _ x=>[x]
 | .del _ m k=>[m,k]
 | .max x y=>[x,y]
 | .min x y=>[x,y]
 | .tN x=>[x]
 | .EH x=>[x]
def br.Yf:br->Option Nat
 | .t n=>some n
 |_=>none
def aW.JS(o:aW):List Nat:=o.op.rh.filterMap br.Yf++o.guard.toList.map (·.1)
theorem CH{ev ev':br->AV}{top:Nat}{x:Option br}{d:Nat}(h:∀y∈x.toList,ev y=ev' y):bound ev top x d=bound ev' top x d:=by
 cases x with
 |none=>rfl
 |some y=>simp only[bound,h y (by simp)]
theorem abo{ev ev':br->AV}{l:List (Nat×Nat×br)}{cs:List AV}(h:∀y∈l.map (·.2.2),ev y=ev' y):dd ev l cs=dd ev' l cs:=by
 induction l generalizing cs with
 |nil=>rfl
 |cons p l ih=>
  obtain⟨off,size,x⟩:=p
  simp only[az,cy,forall_eq_or_imp]at h;simp only[dd,h.1];split
  ·exact ih h.2
  ·rfl
theorem Y9{ev ev':br->AV}{lk mem ay dst}{o:AO}(h:∀x∈o.rh,ev x=ev' x):aI ev lk mem ay dst o=aI ev' lk mem ay dst o:=by
 cases o with
 |build z parts=>simp only[aI,abo (ev:=ev) (ev':=ev') h]
 |yB ag sz xs=>
  have h1:(xs.all fun x=>shaped ag sz (ev x))=xs.all fun x=>shaped ag sz (ev' x):=by rw[Bool.eq_iff_iff];simp only[dO];exact forall_congr' fun x=>forall_congr' fun hx=>by rw[h x hx]
  have h2:(xs.map fun x=>mem.ν (ev x))=xs.map fun x=>mem.ν (ev' x):=de fun x hx=>by rw[h x hx]
  simp only[aI,h1,h2]
 |zJ f a b=>
  have h1:a.map ev=a.map ev':=de fun x hx=>h x (At _ hx)
  have h2:b.map ev=b.map ev':=de fun x hx=>h x (Ct _ hx);simp only[aI,h1,h2]
 |call f args=>
  have h1:args.map ev=args.map ev':=de fun x hx=>h x (yj _ hx)
  have h2:=h f (by simp[AO.rh]);simp only[aI,h1,h2]
 |callz f args=>
  have h1:args.map ev=args.map ev':=de fun x hx=>h x (yj _ hx)
  have h2:=h f (by simp[AO.rh]);simp only[aI,h1,h2]
 |JG sz x lo hi mx=>
  have h2:=h x (by simp[AO.rh])
  have h3:=fun top d=>CH (top:=top) (d:=d) (x:=lo) (ev:=ev) (ev':=ev') fun y hy=>h y (by simp only[AO.rh,cy,dT];exact .inr (.inl (.inl hy)));have h4:=fun top d=>CH (top:=top) (d:=d) (x:=hi) (ev:=ev) (ev':=ev') fun y hy=>h y (by simp only[AO.rh,cy,dT];exact .inr (.inl (.inr hy)));have h5:=fun top d=>CH (top:=top) (d:=d) (x:=mx) (ev:=ev) (ev':=ev') fun y hy=>h y (by simp only[AO.rh,cy,dT];exact .inr (.inr hy));simp only[aI,h2,h3,h4,h5]
 |JH x lo hi=>
  have h2:=h x (by simp[AO.rh])
  have h3:=fun top d=>CH (top:=top) (d:=d) (x:=lo) (ev:=ev) (ev':=ev') fun y hy=>h y (by simp only[AO.rh,cy,dT];exact .inr (.inl hy));have h4:=fun top d=>CH (top:=top) (d:=d) (x:=hi) (ev:=ev) (ev':=ev') fun y hy=>h y (by simp only[AO.rh,cy,dT];exact .inr (.inr hy));simp only[aI,h2,h3,h4]
 |_=>
  simp only[AO.rh,cy,List.not_mem_nil,or_false,forall_eq_or_imp,forall_eq,false_imp_iff,implies_true]at h
  simp only[aI,h]
inductive tT
 |quiet
 |load
 |new (d:Nat)
 |call
 |mJ (st:Bool)
 deriving DecidableEq
def aW.cls(o:aW):tT:=
 match o.op with
 | .alloc false _| .box false _ _| .tN _=>match o.dst with
  |some d=> .new d
  |none=> .mJ false
 | .ld _ _ _=> .load
 | .call _ _| .callz _ _| .appm _ _ _ _ _ _| .app _ _ _ _ _ _| .alloc true _| .box true _ _| .abld _ _=> .call
 | .st _ _ _=> .mJ true
 | .bad| .lookup _ _ _ _ _| .Ew _| .mapup _ _ _ _| .del _ _ _| .mkmap| .mkslc _ _ _ _ _| .cpy _ _ _| .clr _ _| .EH _=> .mJ false
 |_=> .quiet
inductive vb
 |env (t:Nat)
 |loc (d:Nat)
 |mem
 deriving DecidableEq
def agree:vb->St->St->Prop
 | .env t,s,s'=>aK s.env t=aK s'.env t
 | .loc d,s,s'=>bQ s.loc d=bQ s'.loc d
 | .mem,s,s'=>s.mem=s'.mem
theorem yu(r:vb)(s:St):agree r s s:=by cases r<;>rfl
theorem Qo{r:vb}{s s':St}(h:agree r s s'):agree r s' s:=by cases r<;>exact Eq.symm h
theorem CA{r:vb}{s s' XP:St}(h:agree r s s')(k:agree r s' XP):agree r s XP:=by cases r<;>exact Eq.trans h k
def hU(o:aW):vb->Prop
 | .env t=>o.dst=some t
 | .loc d=>o.cls= .new d\/∃b,o.cls= .mJ b
 | .mem=>o.cls= .call\/∃b,o.cls= .mJ b
def PA(o:aW):vb->Prop
 | .env t=>t∈o.JS
 | .loc d=>o.cls= .new d\/∃b,o.cls= .mJ b
 | .mem=>o.cls= .call\/∃b,o.cls= .mJ b
theorem aiI{o:aW}(hc:o.cls= .quiet){ev:br->AV}{lk mem ay v u m}(h:aI ev lk mem ay o.dst o.op=some (v,u,m)):
  u=none/\m=mem/\∀oC xO,aI ev oC xO ay o.dst o.op=some (v,none,xO):=by
 obtain⟨dst,op,gd⟩:=o;cases op with
 |alloc g z=>cases g<;>cases dst<;>simp[aW.cls]at hc
 |box g n x=>cases g<;>cases dst<;>simp[aW.cls]at hc
 |tN x=>cases dst<;>simp[aW.cls]at hc
 |bad=>simp[aW.cls]at hc
 |ld=>simp[aW.cls]at hc
 |st=>simp[aW.cls]at hc
 |call=>simp[aW.cls]at hc
 |callz=>simp[aW.cls]at hc
 |appm=>simp[aW.cls]at hc
 |app=>simp[aW.cls]at hc
 |abld=>simp[aW.cls]at hc
 |lookup=>simp[aW.cls]at hc
 |Ew=>simp[aW.cls]at hc
 |mapup=>simp[aW.cls]at hc
 |del=>simp[aW.cls]at hc
 |mkmap=>simp[aW.cls]at hc
 |EH=>simp[aW.cls]at hc
 |mkslc=>simp[aW.cls]at hc
 |cpy=>simp[aW.cls]at hc
 |clr=>simp[aW.cls]at hc
 |max x y=>
  simp only[aI]at h⊢
  split at h
  ·rename_i h1 h2;split at h
   ·rename_i h3;simp only[aA,bh]at h;obtain⟨rfl,rfl,rfl⟩:=h;refine⟨rfl,rfl,fun _ _=>?_⟩;rw[if_pos h3]
   ·cases h
  ·cases h
 |min x y=>
  simp only[aI]at h⊢
  split at h
  ·rename_i h1 h2;split at h
   ·rename_i h3;simp only[aA,bh]at h;obtain⟨rfl,rfl,rfl⟩:=h;refine⟨rfl,rfl,fun _ _=>?_⟩;rw[if_pos h3]
   ·cases h
  ·cases h
 |yB ag sz xs=>
  simp only[aI]at h⊢
  split at h
  ·rename_i hx;simp only[bh,aA]at h;obtain⟨rfl,rfl,rfl⟩:=h;refine⟨rfl,rfl,fun _ _=>?_⟩;rw[if_pos hx];rfl
  ·cases h
 |_=>
  simp only[aI]at h⊢
  repeat' split at h
  all_goals first|(cases h;done)|skip
  all_goals(try simp only[bD,aA,bh]at h)
  all_goals first
   |(obtain⟨rfl,rfl,rfl⟩:=h;refine⟨rfl,rfl,fun _ _=>?_⟩;simp_all;done)
   |(obtain⟨x,hx,rfl,rfl,rfl⟩:=h;refine⟨rfl,rfl,fun _ _=>?_⟩;simp_all;done)
   |skip
theorem aaa{o:aW}(hc:o.cls= .call){ev:br->AV}{lk mem ay v u m}(h:aI ev lk mem ay o.dst o.op=some (v,u,m)):
  u=none/\∀oC,aI ev oC mem ay o.dst o.op=some (v,none,m):=by
 obtain⟨dst,op,gd⟩:=o;cases op with
 |alloc g z=>
  cases g with
  |false=>cases dst<;>simp[aW.cls]at hc
  |true=>
   simp only[aI,newVar,if_true,bh,aA]at h⊢
   obtain⟨rfl,rfl,rfl⟩:=h;exact⟨rfl,fun _=>by simp⟩
 |box g n x=>
  cases g with
  |false=>cases dst<;>simp[aW.cls]at hc
  |true=>
   simp only[aI,newVar,if_true]at h⊢
   split at h
   ·rename_i hn;simp only[bh,aA]at h;obtain⟨rfl,rfl,rfl⟩:=h;exact⟨rfl,fun _=>by rw[if_pos hn]⟩
   ·cases h
 |tN x=>cases dst<;>simp[aW.cls]at hc
 |abld T e=>
  simp only[aI,bh,aA]at h⊢
  obtain⟨rfl,rfl,rfl⟩:=h;exact⟨rfl,fun _=>by simp⟩
 |call f args=>
  simp only[aI,bD,aA,Prod.exists]at h
  obtain⟨a,b,h1,rfl,rfl,rfl⟩:=h;exact⟨rfl,fun _=>by simp only[aI,h1,qx]⟩
 |callz f args=>
  simp only[aI]at h⊢
  split at h
  ·rename_i h0;simp only[bD,aA,Prod.exists]at h;obtain⟨a,b,h1,rfl,rfl,rfl⟩:=h;exact⟨rfl,fun _=>by simp only[h1,qx]⟩
  ·cases h
 |appm ag sz bytes e x y=>
  simp only[aI,bD,aA,Prod.exists]at h
  obtain⟨a,b,h1,rfl,rfl,rfl⟩:=h;exact⟨rfl,fun _=>by simp only[aI,h1,qx]⟩
 |app ag sz bytes e x y=>
  simp only[aI,bD,aA,Prod.exists]at h
  obtain⟨a,b,h1,rfl,rfl,rfl⟩:=h;exact⟨rfl,fun _=>by simp only[aI,h1,qx]⟩
 |_=>simp[aW.cls]at hc
theorem agv{o:aW}{d:Nat}(hc:o.cls= .new d){ev:br->AV}{lk mem ay v u m}(h:aI ev lk mem ay o.dst o.op=some (v,u,m)):
  o.dst=some d/\m=mem/\(∃x,u=some (d,x))/\∀oC xO,oC d=lk d->aI ev oC xO ay o.dst o.op=some (v,u,xO):=by
 obtain⟨dst,op,gd⟩:=o;have hv:∀(oC:Nat->Option (Nat×θ)),oC d=lk d->bz oC d=bz lk d:=fun oC h=>by simp only[bz,h]
 cases op with
 |alloc g z=>
  cases g<;>cases dst<;>simp[aW.cls]at hc
  subst hc;simp only[aI,newVar,jV,if_false,bh,aA]at h⊢;obtain⟨rfl,rfl,rfl⟩:=h;refine⟨trivial,rfl,⟨_,rfl⟩,fun oC xO hl=>?_⟩;rw[hv oC hl];simp
 |box g n x=>
  cases g<;>cases dst<;>simp[aW.cls]at hc
  subst hc;simp only[aI,newVar,jV,if_false]at h⊢;split at h
  ·rename_i hn;simp only[bh,aA]at h;obtain⟨rfl,rfl,rfl⟩:=h;refine⟨trivial,rfl,⟨_,rfl⟩,fun oC xO hl=>?_⟩;rw[hv oC hl,if_pos hn]
  ·cases h
 |tN x=>
  cases dst<;>simp[aW.cls]at hc
  subst hc;simp only[aI]at h⊢;split at h
  ·rename_i s d' hx hd;cases hd;simp only[bh,aA]at h;obtain⟨rfl,rfl,rfl⟩:=h;refine⟨trivial,rfl,⟨_,rfl⟩,fun oC xO hl=>?_⟩;rw[hv oC hl]
  ·cases h
 |_=>simp[aW.cls]at hc
theorem af6{o:aW}(hc:o.cls= .load):∃ag n a,o.op= .ld ag n a:=by
 obtain⟨dst,op,gd⟩:=o;cases op with
 |alloc g z=>cases g<;>cases dst<;>simp[aW.cls]at hc
 |box g n x=>cases g<;>cases dst<;>simp[aW.cls]at hc
 |tN x=>cases dst<;>simp[aW.cls]at hc
 |ld ag n a=>exact⟨_,_,_,rfl⟩
 |_=>simp[aW.cls]at hc
def Qc(gl:Nat->AV)(o:aW)(s S:St):Prop:=
 ∀ag n a,o.op= .ld ag n a->eX S.env o.guard≠some false->rd (bQ s.loc) s.mem (dw gl S.env a) n=rd (bQ S.loc) S.mem (dw gl S.env a) n
theorem akw{env C3:List AV}{gd:Option (Nat×Bool)}(h:∀t∈gd.toList.map (·.1),aK env t=aK C3 t):eX env gd=eX C3 gd:=by
 cases gd with
 |none=>rfl
 |some p=>simp only[eX];rw[h p.1 (by simp)]
theorem abd{gl:Nat->AV}{env C3:List AV}{l:List br}(h:∀t∈l.filterMap br.Yf,aK env t=aK C3 t):∀x∈l,dw gl env x=dw gl C3 x:=by
 intro x hx;cases x with
 |t n=>exact h n (List.mem_filterMap.2 ⟨_,hx,rfl⟩)
 |c v=>rfl
 |g n=>rfl
theorem Ku{gl:Nat->AV}{ay:cx}{o:aW}{s S S1:St}(Ω:dP gl ay o S=some S1)(oz:∀r,PA o r->agree r s S)(DP:Qc gl o s S):
  ∃s1,dP gl ay o s=some s1/\(∀r,hU o r->agree r s1 S1)/\∀r,¬hU o r->agree r s1 s/\agree r S1 S:=by
 have hu:∀t∈o.JS,aK s.env t=aK S.env t:=fun t ht=>oz (.env t) ht;have hw:eX s.env o.guard=eX S.env o.guard:=akw fun t ht=>hu t (Ct _ ht);have aq:∀x∈o.op.rh,dw gl s.env x=dw gl S.env x:=abd fun t ht=>hu t (At _ ht);unfold dP at Ω⊢;rw[hw];split at Ω
 ·cases Ω
 ·rename_i xG;split at Ω
  ·rename_i v u m he;cases Ω;have fin:∀(u':kL) (m':Mem),(∀r,hU o r->r= .mem->m'=m)->(∀d,hU o (.loc d)->bQ (eN s.loc u') d=bQ (eN S.loc u) d)→
     (¬hU o .mem->m'=s.mem/\m=S.mem)->(∀d,¬hU o (.loc d)->bQ (eN s.loc u') d=bQ s.loc d/\bQ (eN S.loc u) d=bQ S.loc d)→
     (∀r,hU o r->agree r ({env:=fA s.env o.dst v,loc:=eN s.loc u',mem:=m'}:St) {env:=fA S.env o.dst v,loc:=eN S.loc u,mem:=m})∧
     ∀r,¬hU o r->agree r ({env:=fA s.env o.dst v,loc:=eN s.loc u',mem:=m'}:St) s/\agree r ({env:=fA S.env o.dst v,loc:=eN S.loc u,mem:=m}:St) S:=by
    intro u' m' h1 h2 h3 h4;refine⟨fun r hr=>?_,fun r hr=>?_⟩
    ·cases r with
     |env t=>simp only[agree];rw[vk,vk,if_pos (show o.dst=some t from hr),if_pos (show o.dst=some t from hr)]
     |loc d=>exact h2 d hr
     |mem=>exact h1 _ hr rfl
    ·cases r with
     |env t=>
      have hr:¬o.dst=some t:=hr
      simp only[agree];rw[vk,vk,if_neg hr,if_neg hr];exact⟨rfl,rfl⟩
     |loc d=>exact h4 d hr
     |mem=>exact h3 hr
   rw[Y9 aq];cases hc:o.cls with
   |quiet=>
    obtain⟨rfl,rfl,k⟩:=aiI hc he
    refine⟨_,by rw[k],fin none s.mem (fun r hr he=>?_) (fun d hr=>?_) (fun _=>⟨rfl,rfl⟩) (fun _ _=>⟨rfl,rfl⟩)⟩
    ·subst he;simp[hU,hc]at hr
    ·simp[hU,hc]at hr
   |load=>
    obtain⟨ag,n,a,Ξ⟩:=af6 hc
    have hl:=DP ag n a Ξ (by rw[xG];simp);simp only[Ξ,aI]at he⊢;rw[hl];split at he
    ·rename_i l iH;simp only[bD,aA]at he;obtain⟨x,hx,rfl,rfl,rfl⟩:=he;refine⟨_,by simp only[hx,qx],fin none s.mem (fun r hr he=>?_) (fun d hr=>?_) (fun _=>⟨rfl,rfl⟩) (fun _ _=>⟨rfl,rfl⟩)⟩
     ·subst he;simp[hU,hc]at hr
     ·simp[hU,hc]at hr
    ·cases he
   |new d=>
    obtain⟨hd,rfl,⟨x,rfl⟩,k⟩:=agv hc he
    have hl:bQ s.loc d=bQ S.loc d:=oz (.loc d) (.inl hc);refine⟨_,by rw[k _ s.mem hl],fin (some (d,x)) s.mem (fun r hr he=>?_) (fun d' hr=>?_) (fun _=>⟨rfl,rfl⟩) (fun d' hr=>?_)⟩
    ·subst he;simp[hU,hc]at hr
    ·simp only[hU,hc,tT.new.injEq,reduceCtorEq,exists_const,or_false]at hr;subst hr;obtain⟨v',b⟩:=x;simp only[eN,iu,if_true]
    ·have φ:d≠d':=fun h=>hr (.inl (by rw[hc,h]));obtain⟨v',b⟩:=x;simp only[eN,iu,if_neg φ];exact⟨trivial,trivial⟩
   |call=>
    obtain⟨rfl,k⟩:=aaa hc he
    have hm:s.mem=S.mem:=oz .mem (.inl hc);refine⟨_,by rw[hm,k],fin none m (fun _ _ _=>rfl) (fun d hr=>?_) (fun hr=>absurd (.inl hc) hr) (fun _ _=>⟨rfl,rfl⟩)⟩;simp[hU,hc]at hr
   |mJ b0=>
    have hm:s.mem=S.mem:=oz .mem ((.inr ⟨_,hc⟩))
    have hl:bQ s.loc=bQ S.loc:=funext fun d=>oz (.loc d) ((.inr ⟨_,hc⟩));refine⟨_,by rw[hm,hl,he],fin u m (fun _ _ _=>rfl) (fun d hr=>?_) (fun hr=>absurd (.inr ⟨_,hc⟩) hr) (fun d hr=>absurd (.inr ⟨_,hc⟩) hr)⟩;rw[OL,OL,hl]
  ·cases Ω
 ·cases Ω;refine⟨_,rfl,fun r hr=>?_,fun r hr=>?_⟩
  ·cases r with
   |env t=>simp only[agree];rw[vk,vk,if_pos (show o.dst=some t from hr),if_pos (show o.dst=some t from hr)]
   |loc d=>exact oz (.loc d) hr
   |mem=>exact oz .mem hr
  ·cases r with
   |env t=>
    have hr:¬o.dst=some t:=hr
    simp only[agree];rw[vk,vk,if_neg hr,if_neg hr];exact⟨rfl,rfl⟩
   |loc d=>exact⟨rfl,rfl⟩
   |mem=>exact⟨rfl,rfl⟩
def ins(x:Nat)(l:List Nat):List Nat:=if l.contains x then l else x::l
theorem Ww{x y:Nat}{l:List Nat}(h:y∈ins x l):y=x\/y∈l:=by
 unfold ins at h;split at h
 ·exact .inr h
 ·simpa using h
def VB(m l:List Nat):List Nat:=m.foldr ins l
theorem agl{y:Nat}{m l:List Nat}(h:y∈VB m l):y∈m\/y∈l:=by
 induction m with
 |nil=>exact .inr h
 |cons a m ih=>
  rcases Ww h with rfl|h
  ·exact .inl (by simp)
  ·rcases ih h with h|h
   ·exact .inl (by simp[h])
   ·exact .inr h
def tG(acc:List (List Nat)):List Edge->List Nat
 |[]=>[]
 |e::l=>if Region.binds .any e then ins e.on (VB (acc.getD e.on []) (tG acc l))else tG acc l
theorem agm{acc:List (List Nat)}{es:List Edge}{j:Nat}(h:j∈tG acc es):∃e∈es,Region.binds .any e=true/\(j=e.on\/j∈acc.getD e.on []):=by
 induction es with
 |nil=>cases h
 |cons e l ih=>
  simp only[tG]at h
  have tail:j∈tG acc l->∃e'∈e::l,Region.binds .any e'=true/\(j=e'.on\/j∈acc.getD e'.on []):=fun h=>by obtain⟨e',h1,h2⟩:=ih h;exact⟨e',yj _ h1,h2⟩
  split at h
  ·rename_i hb;rcases Ww h with h|h
   ·exact⟨e,by simp,hb,.inl h⟩
   ·rcases agl h with h|h
    ·exact⟨e,by simp,hb,.inr h⟩
    ·exact tail h
  ·exact tail h
def rk:List Oper->List (List Nat)->List (List Nat)
 |[],acc=>acc
 |o::l,acc=>rk l (acc++[tG acc o.after.toList])
def qD:List Oper->Nat->Bool
 |[],_=>true
 |o::l,i=>(o.after.toList.all fun e=>!Region.binds .any e||decide (e.on<i))&&qD l (i+1)
theorem Xk(l:List Oper)(acc:List (List Nat)):∃rest,rk l acc=acc++rest/\rest.length=l.length:=by
 induction l generalizing acc with
 |nil=>exact⟨[],by simp[rk],rfl⟩
 |cons o l ih=>
  obtain⟨rest,h1,h2⟩:=ih (acc++[tG acc o.after.toList])
  exact⟨tG acc o.after.toList::rest,by simp[rk,h1],by simp[h2]⟩
theorem ail(l:List Oper)(acc:List (List Nat))(i:Nat)(o:Oper)(h:l[i]?=some o)(he:qD l acc.length=true)(j:Nat)
  (hj:j∈(rk l acc).getD (acc.length+i) []):
  ∃e∈o.after,Region.binds .any e=true/\e.on<acc.length+i/\(j=e.on\/j∈(rk l acc).getD e.on []):=by
 induction l generalizing acc i with
 |nil=>simp at h
 |cons o' l ih=>
  simp only[qD,ej,dO,ya,Ao,decide_eq_true_eq]at he
  cases i with
  |zero=>
   simp only[Cr,bh]at h
   subst h;obtain⟨rest,h1,h2⟩:=Xk l (acc++[tG acc o'.after.toList]);have hg:(rk (o'::l) acc).getD (acc.length+0) []=tG acc o'.after.toList:=by simp only[rk,h1];simp[nT]
   rw[hg]at hj;obtain⟨e,h3,h4,h5⟩:=agm hj;have ψ:=(he.1 e h3).resolve_left (by simp[h4]);refine⟨e,by simpa using h3,h4,by simpa using ψ,h5.imp id fun h5=>?_⟩;have:(rk (o'::l) acc).getD e.on []=acc.getD e.on []:=by simp only[rk,h1];simp[nT,List.getElem?_append,ψ]
   rw[this];exact h5
  |succ i=>
   simp only[Ka]at h
   have:=ih (acc++[tG acc o'.after.toList]) i h (by simpa using he.2) (by simpa[rk,rz,Aw 1 i]using hj);simpa[rk,rz,Aw 1 i]using this
def iZ(ops:Array Oper):List (List Nat):=rk ops.toList []
theorem Pk{ops:Array Oper}(he:qD ops.toList 0=true){i j:Nat}{o:Oper}(h:ops[i]?=some o)(hj:j∈(iZ ops).getD i []):
  ∃e∈o.after,Region.binds .any e=true/\e.on<i/\(j=e.on\/j∈(iZ ops).getD e.on []):=by
 have:=ail ops.toList [] i o (by simpa using h) he j (by simpa[iZ]using hj);simpa[iZ]using this
theorem aa5{l:List Oper}{k:Nat}(he:qD l k=true){i:Nat}{o:Oper}(h:l[i]?=some o):∀e∈o.after,Region.binds .any e=true->e.on<k+i:=by
 induction l generalizing k i with
 |nil=>simp at h
 |cons o' l ih=>
  simp only[qD,ej,dO,ya,Ao,decide_eq_true_eq]at he
  cases i with
  |zero=>
   simp only[Cr,bh]at h
   subst h;intro e hm hb;exact(he.1 e (by simpa using hm)).resolve_left (by simp[hb])
  |succ i=>
   simp only[Ka]at h
   intro e hm hb;have:=ih he.2 h e hm hb;omega
def CP:tT->tT->Bool
 | .quiet,_=>false
 |_,.quiet=>false
 | .mJ true,.load=>false
 | .load,.mJ true=>false
 | .mJ _,_=>true
 |_,.mJ _=>true
 | .call,.call=>true
 | .new d,.new d'=>d==d'
 |_,_=>false
def Nh(o o':aW):Bool:=match o.dst with
 |some t=>o'.dst==some t||o'.JS.contains t
 |none=>false
def AM(o o':aW):Bool:=CP o.cls o'.cls||Nh o o'||Nh o' o
theorem Lk{o o':aW}(h:AM o o'=false):∀r,hU o r->¬hU o' r/\¬PA o' r:=by
 intro r hr;simp only[AM,Fj]at h;obtain⟨⟨h1,h2⟩,h3⟩:=h;cases r with
 |env t=>
  have hr:o.dst=some t:=hr
  simp only[Nh,hr,Fj]at h2;refine⟨fun hw=>?_,fun hw=>?_⟩
  ·have hw:o'.dst=some t:=hw;simp[hw]at h2
  ·have hw:t∈o'.JS:=hw;simp[hw]at h2
 |loc d=>
  have key:¬(o'.cls= .new d\/∃b,o'.cls= .mJ b):=by rintro(hw|⟨b,hw⟩)<;>rcases hr with hr|⟨b',hr⟩<;>simp[hr,hw,CP]at h1
  exact⟨key,key⟩
 |mem=>
  have key:¬(o'.cls= .call\/∃b,o'.cls= .mJ b):=by rintro(hw|⟨b,hw⟩)<;>rcases hr with hr|⟨b',hr⟩<;>simp[hr,hw,CP]at h1
  exact⟨key,key⟩
def cmp(pre:List (List Nat))(i j:Nat):Bool:=(pre.getD j []).contains i||(pre.getD i []).contains j
def CV(l:List aW)(pre:List (List Nat)):Bool:=
 (ry l.length).all fun j=>(ry l.length).all fun i=>decide (i=j)||cmp pre i j||(match l[i]?,l[j]? with
  |some oi,some oj=>!AM oi oj
  |_,_=>true)
def Om(p:tT->Bool)(l:List aW)(i:Nat):Bool:=match l[i]? with
 |some o=>p o.cls
 |none=>false
def sy(l:List aW)(pre:List (List Nat))(p q:tT->Bool):List (Nat×Nat):=
 ((ry l.length).filter (Om p l)).flatMap fun i=>(((ry l.length).filter (Om q l)).filter fun j=>!(cmp pre i j)).map fun j=>(i,j)
def q_:tT->Bool
 | .load=>true
 |_=>false
def zz:tT->Bool
 | .call=>true
 | .mJ true=>true
 |_=>false
def BJ:tT->Bool
 | .new _=>true
 |_=>false
theorem OS{l:List aW}{pre:List (List Nat)}{p q:tT->Bool}{i j:Nat}{o o':aW}(h1:l[i]?=some o)(h2:l[j]?=some o')(hp:p o.cls=true)(hq:q o'.cls=true)
  (hc:cmp pre i j=false):(i,j)∈sy l pre p q:=by
 have hi:i<l.length:=(fB.1 h1).1;have hj:j<l.length:=(fB.1 h2).1;simp only[sy,List.mem_flatMap,eP,Au,Av,aA,Om];exact⟨i,⟨hi,by simp[h1,hp]⟩,j,⟨⟨hj,by simp[h2,hq]⟩,by simp[hc]⟩,rfl,rfl⟩
mutual
theorem AV.eq_of_beq:∀(a b:AV),AV.beq a b=true->a=b
 | .undef,b,h=>by cases b<;>simp[AV.beq]at h;rfl
 | .cY,b,h=>by cases b<;>simp[AV.beq]at h;rfl
 | .int k n,b,h=>by cases b<;>simp[AV.beq]at h;rw[h.1,h.2]
 | .bool x,b,h=>by cases b<;>simp[AV.beq]at h;rw[h]
 | .str s,b,h=>by cases b<;>simp[AV.beq]at h;rw[h]
 | .iW,b,h=>by cases b<;>simp[AV.beq]at h;rfl
 | .aj d v o,b,h=>by cases b<;>simp[AV.beq]at h;rw[h.1.1,h.1.2,h.2]
 | .μ d o,b,h=>by cases b<;>simp[AV.beq]at h;rw[h.1,h.2]
 | .ref l,b,h=>by cases b<;>simp[AV.beq]at h;rw[AV.wT _ _ h]
 | .sl kd i o n c,b,h=>by cases b<;>simp[AV.beq]at h;rw[h.1.1.1.1,h.1.1.1.2,h.1.1.2,h.1.2,h.2]
 | .list c l,b,h=>by cases b<;>simp[AV.beq]at h;rw[h.1,AV.wT _ _ h.2]
 | .agg l,b,h=>by cases b<;>simp[AV.beq]at h;rw[AV.wT _ _ h]
 | .aQ l,b,h=>by cases b<;>simp[AV.beq]at h;rw[AV.wT _ _ h]
 | .fn f x y,b,h=>by cases b<;>simp[AV.beq]at h;rw[h.1.1,AV.wT _ _ h.1.2,AV.wT _ _ h.2]
 | .fX,b,h=>by cases b<;>simp[AV.beq]at h;rfl
 | .iface t v,b,h=>by cases b<;>simp[AV.beq]at h;rw[h.1,AV.eq_of_beq _ _ h.2]
 | .gy,b,h=>by cases b<;>simp[AV.beq]at h;rfl
 | .map i,b,h=>by cases b<;>simp[AV.beq]at h;rw[h]
 | .gZ,b,h=>by cases b<;>simp[AV.beq]at h;rfl
theorem AV.wT:∀(a b:List AV),AV.gK a b=true->a=b
 |[],b,h=>by cases b<;>simp[AV.gK]at h;rfl
 |x::l,b,h=>by
  cases b with
  |nil=>simp[AV.gK]at h
  |cons y m=>simp[AV.gK]at h;rw[AV.eq_of_beq _ _ h.1,AV.wT _ _ h.2]
end
theorem F_{a b:Option (List AV)}(h:eK a b=true):a=b:=by cases a<;>cases b<;>simp[eK]at h;rw[AV.wT _ _ h]
theorem R_{P:Program}{bj:Nat->Bool}{N:Nat}{ops:Array Oper}{l:List Oper}{l':List aW}(h:uc P bj N ops l=some l'):l'.length=l.length:=by
 induction l generalizing l' with
 |nil=>cases h;rfl
 |cons o l ih=>
  simp only[uc]at h
  split at h
  ·rename_i h1 h2;cases h;simp[ih h2]
  ·cases h
theorem R9{P:Program}{bj:Nat->Bool}{N:Nat}{ops:Array Oper}{l:List Oper}{l':List aW}(h:uc P bj N ops l=some l'){i:Nat}{o:Oper}(hi:l[i]?=some o):
  ∃o',l'[i]?=some o'/\FQ P bj N ops o=some o':=by
 induction l generalizing l' i with
 |nil=>simp at hi
 |cons x l ih=>
  simp only[uc]at h
  split at h
  ·rename_i h1 h2;cases h;cases i with
   |zero=>simp only[Cr,bh]at hi;subst hi;exact⟨_,rfl,h1⟩
   |succ i=>simp only[Ka]at hi⊢;exact ih h2 hi
  ·cases h
structure Trace (gl:Nat->AV) (ay:cx) (l:List aW) (T:Nat->St):Prop where
 step:∀i o,l[i]?=some o->dP gl ay o (T i)=some (T (i+1))
theorem QB{gl:Nat->AV}{ay:cx}{l:List aW}{s:St}{tr:List St}(h:ew gl ay l s=some tr):
  tr.length=l.length+1/\tr[0]?=some s/\∀i o,l[i]?=some o->∃a b,tr[i]?=some a/\tr[i+1]?=some b/\dP gl ay o a=some b:=by
 induction l generalizing s tr with
 |nil=>cases h;exact⟨rfl,rfl,fun i o h=>by simp at h⟩
 |cons x l ih=>
  simp only[ew]at h
  split at h
  ·rename_i s' he;simp only[bD]at h;obtain⟨t,ht,rfl⟩:=h;obtain⟨h1,h2,h3⟩:=ih ht;refine⟨by simp[h1],rfl,fun i o ho=>?_⟩;cases i with
   |zero=>
    simp only[Cr,bh]at ho
    subst ho;exact⟨s,s',rfl,by simpa using h2,he⟩
   |succ i=>
    simp only[Ka]at ho⊢
    exact h3 i o ho
  ·cases h
section
variable{gl:Nat->AV}{ay:cx}{l:List aW}{T:Nat->St}
theorem Trace.same(hT:Trace gl ay l T){r:vb}{i:Nat}:∀{k:Nat},i<=k->k<=l.length->(∀j o,i<=j->j<k->l[j]?=some o->¬hU o r)->agree r (T k) (T i):=by
 intro k;induction k with
 |zero=>intro h _ _;obtain rfl:i=0:=(by omega);exact yu _ _
 |succ k ih=>
  intro h hk hn
  rcases da k i with ψ|dD
  ·obtain rfl:i=k+1:=by omega
   exact yu _ _
  ·have h1:=ih dD (by omega) fun j o hj dL=>hn j o hj (by omega);have ψ:k<l.length:=by omega
   have Ω:=hT.step k l[k] (dn ψ);obtain⟨s1,h2,_,h4⟩:=Ku (s:=T k) Ω (fun r _=>yu r _) (fun _ _ _ _ _=>rfl);exact CA (h4 r (hn k l[k] dD (by omega) (dn ψ))).2 h1
theorem Trace.last(hT:Trace gl ay l T){r:vb}{i:Nat}:∀{k:Nat},i<=k->k<=l.length→
  agree r (T k) (T i)\/∃j o,i<=j/\j<k/\l[j]?=some o/\hU o r/\agree r (T k) (T (j+1)):=by
 intro k;induction k with
 |zero=>intro h _;obtain rfl:i=0:=(by omega);exact .inl (yu _ _)
 |succ k ih=>
  intro h hk
  rcases da k i with ψ|dD
  ·obtain rfl:i=k+1:=by omega
   exact .inl (yu _ _)
  ·have ψ:k<l.length:=by omega
   have ho:l[k]?=some l[k]:=dn ψ;by_cases hw:hU l[k] r
   ·exact .inr ⟨k,l[k],dD,by omega,ho,hw,yu _ _⟩
   ·have Ω:=hT.step k l[k] ho;obtain⟨s1,h2,_,h4⟩:=Ku (s:=T k) Ω (fun r _=>yu r _) (fun _ _ _ _ _=>rfl);have h5:=(h4 r hw).2;rcases ih dD (by omega)with h1|⟨j,o,k1,k2,k3,k4,k5⟩
    ·exact .inl (CA h5 h1)
    ·exact .inr ⟨j,o,k1,by omega,k3,k4,CA h5 k5⟩
def Inv(l:List aW)(T:Nat->St)(listed:Nat->Prop)(s:St):Prop:=
 ∀r k,k<=l.length->(∀j o,j<k->l[j]?=some o->hU o r->listed j)->(∀j o,k<=j->l[j]?=some o->hU o r->¬listed j)->agree r s (T k)
structure Kh (gl:Nat->AV) (l:List aW) (T:Nat->St) (jb:Nat->Nat->Prop):Prop where
 back:∀i j,jb i j->i<j
 free:∀i j oi oj,l[i]?=some oi->l[j]?=some oj->i≠j->¬jb i j->¬jb j i->AM oi oj=false
 cf:∀i j oi oj ag n a,l[i]?=some oi->l[j]?=some oj->oi.op= .ld ag n a->(oj.cls= .call\/oj.cls= .mJ true)->¬jb i j->¬jb j i->eX (T i).env oi.guard≠some false→
  ∀id off,dw gl (T i).env a= .μ id off->rd (fun _=>none) (T j).mem (.μ id off) n=rd (fun _=>none) (T i).mem (.μ id off) n∧
   rd (fun _=>none) (T (j+1)).mem (.μ id off) n=rd (fun _=>none) (T i).mem (.μ id off) n
 sf:∀i j oi oj ag n a,l[i]?=some oi->l[j]?=some oj->oi.op= .ld ag n a->oj.cls= .mJ true->¬jb i j->¬jb j i->eX (T i).env oi.guard≠some false→
  ∀d v off,dw gl (T i).env a= .aj d v off->rd (bQ (T j).loc) (T j).mem (.aj d v off) n=rd (bQ (T i).loc) (T i).mem (.aj d v off) n∧
   rd (bQ (T (j+1)).loc) (T (j+1)).mem (.aj d v off) n=rd (bQ (T i).loc) (T i).mem (.aj d v off) n
 af:∀i j oi oj ag n a d,l[i]?=some oi->l[j]?=some oj->oj.op= .ld ag n a->oi.cls= .new d->¬jb i j->¬jb j i→
  ∀v off,dw gl (T j).env a= .aj d v off->False
theorem CQ{o:aW}{ag n a}(h:o.op= .ld ag n a):o.cls= .load:=by obtain⟨dst,op,gd⟩:=o;cases h;rfl
theorem agu{o:aW}{d:Nat}(h:o.cls= .new d):o.dst=some d:=by
 obtain⟨dst,op,gd⟩:=o;cases op with
 |alloc g z=>cases g<;>cases dst<;>simp_all [aW.cls]
 |box g n x=>cases g<;>cases dst<;>simp_all [aW.cls]
 |tN x=>cases dst<;>simp_all [aW.cls]
 |_=>simp[aW.cls]at h
theorem ahm(hT:Trace gl ay l T){jb:Nat->Nat->Prop}(hO:Kh gl l T jb){listed:Nat->Prop}{s:St}(hI:Inv l T listed s)
  (ep:∀i j,jb i j->listed j->listed i) {i:Nat} {o:aW} (ho:l[i]?=some o) (zs:¬listed i) (Ip:∀j,jb j i->listed j):
  ∃s1,dP gl ay o s=some s1/\Inv l T (fun j=>listed j\/j=i) s1:=by
 have hi:i<l.length:=(fB.1 ho).1;have side:∀r,(∀j oj,l[j]?=some oj->hU oj r->j≠i->jb i j\/jb j i)->agree r s (T i):=by
  intro r hr;refine hI r i (Ax hi) (fun j oj hj iS hw=>?_) (fun j oj hj iS hw hl=>?_)
  ·rcases hr j oj iS hw (by omega)with h|h
   ·have:=hO.back _ _ h;omega
   ·exact Ip j h
  ·rcases amk hj with rfl|ψ
   ·exact zs hl
   ·rcases hr j oj iS hw (by omega)with h|h
    ·exact zs (ep _ _ h hl)
    ·have:=hO.back _ _ h;omega
 have oz:∀r,PA o r->agree r s (T i):=by
  intro r hr;refine side r fun j oj iS hw φ=>?_;by_cases h1:jb i j
  ·exact .inl h1
  ·by_cases h2:jb j i
   ·exact .inr h2
   ·exact absurd hr (Lk (hO.free j i oj o iS ho φ h2 h1) r hw).2
 have look:∀{β:Type} (f:St->β) (r:vb),(∀s s',agree r s s'->f s=f s')→
   (∀j oj,l[j]?=some oj->hU oj r->j≠i->¬jb i j->¬jb j i->f (T j)=f (T i)/\f (T (j+1))=f (T i))->f s=f (T i):=by
  intro β f r hf UH;have⟨k,hk,pZ,gE⟩:∃k,k<=l.length/\(∀j oj,j<k->l[j]?=some oj->hU oj r->listed j)/\(k=l.length\/∃ok,l[k]?=some ok/\hU ok r/\¬listed k):=by
   have:∀k,k<=l.length->(∀j oj,j<k->l[j]?=some oj->hU oj r->listed j)\/∃m,m<k/\(∀j oj,j<m->l[j]?=some oj->hU oj r->listed j)/\∃ok,l[m]?=some ok/\hU ok r/\¬listed m:=by
    intro k;induction k with
    |zero=>intro _;exact .inl fun j oj hj=>by omega
    |succ k ih=>
     intro hk
     rcases ih (by omega)with h|⟨m,h1,h2⟩
     ·have ai:l[k]?=some l[k]:=dn (by omega);by_cases hx:hU l[k] r/\¬listed k
      ·exact .inr ⟨k,by omega,h,_,ai,hx⟩
      ·refine .inl fun j oj hj iS gh=>?_;rcases da j k with ψ|dD
       ·exact h j oj ψ iS gh
       ·obtain rfl:j=k:=by omega
        rw[ai]at iS;cases iS;exact Classical.byContradiction fun hn=>hx ⟨gh,hn⟩
     ·exact .inr ⟨m,by omega,h2⟩
   rcases this l.length (bS _)with h|⟨m,h1,h2,h3⟩
   ·exact⟨l.length,bS _,h,.inl rfl⟩
   ·exact⟨m,Ax h1,h2,.inr h3⟩
  have Γ:agree r s (T k):=by
   refine hI r k hk pZ fun j oj hj iS gh hl=>?_;rcases gE with rfl|⟨ok,h1,h2,h3⟩
   ·have:=(fB.1 iS).1;omega
   ·rcases amk hj with rfl|ψ
    ·exact h3 hl
    ·by_cases g1:jb k j
     ·exact h3 (ep _ _ g1 hl)
     ·by_cases g2:jb j k
      ·have:=hO.back _ _ g2;omega
      ·exact(Lk (hO.free k j ok oj h1 iS (by omega) g1 g2) r h2).1 gh
  rw[hf _ _ Γ];have ordered:i<=k->f (T k)=f (T i):=by
   intro uu;rcases hT.last (r:=r) uu hk with h|⟨j,oj,g1,g2,g3,g4,g5⟩
   ·exact hf _ _ h
   ·rw[hf _ _ g5];have hl:=pZ j oj g2 g3 g4;have φ:j≠i:=fun h=>zs (h▸hl);have n1:¬jb i j:=fun h=>zs (ep _ _ h hl);have n2:¬jb j i:=fun h=>by have:=hO.back _ _ h;omega
    exact(UH j oj g3 g4 φ n1 n2).2
  rcases gE with rfl|⟨ok,h1,h2,h3⟩
  ·exact ordered (Ax hi)
  ·by_cases g1:jb i k
   ·exact ordered (Ax (hO.back _ _ g1))
   ·by_cases g2:jb k i
    ·exact absurd (Ip k g2) h3
    ·by_cases hki:k=i
     ·exact ordered (by omega)
     ·exact(UH k ok h1 h2 hki g1 g2).1
 have DP:Qc gl o s (T i):=by
  intro ag n a Ξ hw;cases hp:dw gl (T i).env a with
  |aj d v off=>
   refine look (fun s=>rd (bQ s.loc) s.mem (.aj d v off) n) (.loc d) (fun s s' h=>?_) fun j oj iS gh φ n1 n2=>?_
   ·simp only[rd];rw[show bQ s.loc d=bQ s'.loc d from h]
   ·rcases gh with gh|⟨b,gh⟩
    ·exact(hO.af j i oj o ag n a d iS ho Ξ gh n2 n1 v off hp).elim
    ·cases b with
     |false=>
      have:=hO.free j i oj o iS ho φ n2 n1
      simp[AM,gh,CQ Ξ,CP]at this
     |true=>exact hO.sf i j o oj ag n a ho iS Ξ gh n1 n2 hw d v off hp
  |μ id off=>
   refine look (fun s=>rd (bQ s.loc) s.mem (.μ id off) n) .mem (fun s s' h=>?_) fun j oj iS gh φ n1 n2=>?_
   ·show rd (fun _=>none) s.mem (.μ id off) n=rd (fun _=>none) s'.mem (.μ id off) n;rw[show s.mem=s'.mem from h]
   ·refine hO.cf i j o oj ag n a ho iS Ξ ?_ n1 n2 hw id off hp;rcases gh with gh|⟨b,gh⟩
    ·exact .inl gh
    ·cases b with
     |false=>
      have:=hO.free j i oj o iS ho φ n2 n1
      simp[AM,gh,CQ Ξ,CP]at this
     |true=>exact .inr gh
  |_=>rfl
 obtain⟨s1,h1,h2,h3⟩:=Ku (hT.step i o ho) oz DP;refine⟨s1,h1,fun r k hk ψ dD=>?_⟩;by_cases hw:hU o r
 ·have uu:i<k:=by
   rcases da i k with h|h
   ·exact h
   ·exact absurd (.inr rfl) (dD i o h ho hw)
  refine CA (h2 r hw) (Qo (hT.same (i:=i+1) uu hk fun j oj hj Ia iS sh=>?_));have hl:listed j:=(ψ j oj Ia iS sh).resolve_right (by omega);by_cases g1:jb i j
  ·exact zs (ep _ _ g1 hl)
  ·by_cases g2:jb j i
   ·have:=hO.back _ _ g2;omega
   ·exact(Lk (hO.free i j o oj ho iS (by omega) g1 g2) r hw).1 sh
 ·refine CA (h3 r hw).1 (hI r k hk (fun j oj hj iS sh=>?_) (fun j oj hj iS sh hl=>dD j oj hj iS sh (.inl hl)));refine(ψ j oj hj iS sh).resolve_right ?_
  rintro rfl
  rw[ho]at iS;cases iS;exact hw sh
end
section
variable{F:Fence}{n:Nat}{P:Program}{bj:Nat->Bool}{N:Nat}{gl:Nat->AV}{base:Nat}{LC:eY}{cW:Nat}{ay:cx}
variable{ops:Array Oper}{Q:Exit->Act->World->Prop}
theorem SR.congr{g:Gh}{lb:LB}{own:OW}{s s':St}{a:Act}{w:World}(h:SR gl base N LC cW g lb own s a w)(hr:∀r,agree r s s'):SR gl base N LC cW g lb own s' a w:= {
 env t:=by have:=hr (.env t);simp only[agree]at this;rw[<-this];exact h.env t
 gl:=h.gl
 size:=h.size
 defers:=h.defers
 mem:=by have:=hr .mem;simp only[agree]at this;rw[<-this];exact h.mem
 loc:=by have:bQ s.loc=bQ s'.loc:=funext fun d=>hr (.loc d);rw[<-this];exact h.loc
 own:=h.own}
theorem SR.drawn{g:Gh}{lb:LB}{own:OW}{s:St}{a:Act}{w:World}(h:SR gl base N LC cW g lb own s a w)(d:Nat):
  SR gl base N LC cW g lb own s a {w with drawn:=d}/\eE g own w g own {w with drawn:=d}:=by
 refine⟨⟨h.env,h.gl,h.size,h.defers.bf (g:=g) (g':=g) ⟨g.eS,bS _,rfl,rfl,rfl,fun _ _ _=>rfl,fun _ _ h=>h,fun _ _ _ _=>rfl⟩,?_,?_,?_⟩,g.eS,bS _,rfl,rfl,rfl,fun _ _ _=>rfl,fun _ _ h=>h,fun _ _ _ _=>rfl⟩
 ·exact⟨h.mem.jx,h.mem.nO,fun id blk hb=>(h.mem.blk id blk hb).bf g.eS (fun _ _=>⟨rfl,rfl,fun _=>rfl⟩) (fun _ h=>h) (fun h=>h),fun b o x hx=>(qC (w:=w) rfl).trans (h.mem.im b o x hx)⟩
 ·exact⟨fun d v l hd=>by
    obtain⟨b,h1,h2⟩:=h.loc.cells d v l hd
    exact⟨b,h1,h2.bf g.eS (fun _ _ _ h=>h) rfl rfl fun _=>rfl⟩,h.loc.iter,h.loc.wu⟩
 ·exact⟨h.own.ge,h.own.base⟩
theorem ahk(hF:∀f,F.fn f)(hd:F.depth=none)(iR:nS F P base LC gl ay){l:List aW}(hc:uc P bj N ops ops.toList=some l):
  ∀(m k:Nat) (g:Gh) (lb:LB) (own:OW) (s s':St) (a:Act) (w:World),k+m=ops.size->SR gl base N LC cW g lb own s a w->dY gl ay (l.drop k) s=some s'→
   (∀g' lb' aD a' w',eE g own w g' aD w'->SR gl base N LC cW g' lb' aD s' a' w'->Q .normal a' w')->wpOpsIn F n P ops Q ((ry m).map (·+k)) a w:=by
 intro m;induction m with
 |zero=>
  intro k g lb own s s' a w hk hs hx hQ
  have hlen:=R_ hc;rw[List.drop_of_length_le (by simp at hlen;omega)]at hx;cases hx;simpa[wpOpsIn]using hQ _ _ _ _ _ (eE.refl _ _ _) hs
 |succ m ih=>
  intro k g lb own s s' a w hk hs hx hQ
  have df:k<ops.size:=by omega
  obtain⟨o',r9,cH⟩:=R9 hc (i:=k) (o:=ops[k]) (by simp[df]);have ψ:=(fB.1 r9).1;have acT:=(fB.1 r9).2;rw[List.drop_eq_getElem_cons ψ,acT]at hx;simp only[dY]at hx;split at hx
  ·rename_i s1 Ω;have hr:(ry (m+1)).map (·+k)=k::(ry m).map (·+(k+1)):=by rw[List.range_succ_eq_map];simp[List.map_map,Function.comp_def,rz,Aw 1 k]
   rw[hr,wpOpsIn_cons];refine X3 hF hd iR (wz df) cH hs Ω fun g' lb' aD a' w' h1 h2=>?_;exact ih (k+1) g' lb' aD s1 s' a' w' (by omega) h2 hx fun g2 Ev qh a2 w2 h3 h4=>hQ _ _ _ _ _ (h1.trans h3) h4
  ·cases hx
def kU(listed:Array Bool)(j:Nat):Prop:=listed.getD j false=true
theorem Wu{listed:Array Bool}{i:Nat}(hi:i<listed.size)(j:Nat):kU (listed.setIfInBounds i true) j↔kU listed j\/j=i:=by
 unfold kU;by_cases h:i=j
 ·subst h;simp[hi]
 ·rw[getD_set_ne false h];exact⟨.inl,fun h'=>h'.resolve_right fun e=>h e.symm⟩
theorem WJ{listed:Array Bool}{i:Nat}(hi:i<listed.size):¬kU listed i↔listed.getD i true=false:=by unfold kU;simp[hi]
theorem aar(he:qD ops.toList 0=true){listed:Array Bool}(ep:∀i o,ops[i]?=some o->kU listed i->∀e∈o.after,Region.binds .any e=true->kU listed e.on)
  (aL:listed.size=ops.size):∀j i,i∈(iZ ops).getD j []->kU listed j->kU listed i:=by
 intro j;induction j using aml with
 |_ j ih=>
  intro i hi hj
  have vE:j<ops.size:=by
   rcases da j ops.size with h|h
   ·exact h
   ·unfold kU at hj;simp[amm (aL▸h)]at hj
  obtain⟨e,h1,h2,h3,h4⟩:=Pk he (wz vE) hi;have:=ep j _ (wz vE) hj e h1 h2;rcases h4 with rfl|h4
  ·exact this
  ·exact ih e.on h3 i h4 this
theorem aim(he:qD ops.toList 0=true):∀j i,i∈(iZ ops).getD j []->i<j:=by
 intro j;induction j using aml with
 |_ j ih=>
  intro i hi
  rcases da j ops.size with vE|vE
  ·obtain⟨e,h1,h2,h3,h4⟩:=Pk he (wz vE) hi;rcases h4 with rfl|h4
   ·exact h3
   ·have:=ih e.on h3 i h4;omega
  ·obtain⟨rest,h1,h2⟩:=Xk ops.toList [];have hl:(iZ ops).length=ops.size:=by simp[iZ,h1,h2]
   rw[nT,h_ (by omega)]at hi;simp at hi
theorem adu{l:List aW}{j:Nat}{o:aW}(h:l[j]?=some o)(hc:o.cls= .mJ true):cQ l j=true:=by
 simp only[cQ,h];obtain⟨dst,op,gd⟩:=o;cases op with
 |alloc g z=>cases g<;>cases dst<;>simp[aW.cls]at hc
 |box g n x=>cases g<;>cases dst<;>simp[aW.cls]at hc
 |tN x=>cases dst<;>simp[aW.cls]at hc
 |st=>rfl
 |_=>simp[aW.cls]at hc
theorem ahl{l:List aW}{s:St}{tr:List St}(he:qD ops.toList 0=true)(ai:CV l (iZ ops)=true)(BD:ew gl ay l s=some tr)
  (Uz:(sy l (iZ ops) q_ zz).all (fun p=>cN gl l tr p.1 p.2)=true) (haf:(sy l (iZ ops) BJ q_).all (fun p=>nY gl l tr p.1 p.2)=true):
  Trace gl ay l (fun i=>tr.getD i s)/\Kh gl l (fun i=>tr.getD i s) (fun i j=>i∈(iZ ops).getD j []):=by
 obtain⟨h1,h2,h3⟩:=QB BD;have hT:Trace gl ay l (fun i=>tr.getD i s):=by refine⟨fun i o ho=>?_⟩;obtain⟨a,b,k1,k2,k3⟩:=h3 i o ho;simpa[nT,k1,k2]using k3
 have HZ:∀i j,¬i∈(iZ ops).getD j []->¬j∈(iZ ops).getD i []->cmp (iZ ops) i j=false:=by intro i j h h';simp only[cmp,Fj];exact⟨by simpa using h,by simpa using h'⟩
 refine⟨hT,⟨fun i j h=>aim he j i h,?_,?_,?_,?_⟩⟩
 ·intro i j oi oj hi hj φ n1 n2;have ae:=(fB.1 hi).1;have dL:=(fB.1 hj).1;simp only[CV,dO,Av]at ai;have:=ai j dL i ae;simpa[φ,HZ i j n1 n2,hi,hj]using this
 ·intro i j oi oj ag m a hi hj Ξ ep n1 n2 hw id off hp;have Γ:=OS (p:=q_) (q:=zz) hi hj (by rw[CQ Ξ];rfl) (by rcases ep with ep|ep<;>(rw[ep];rfl)) (HZ i j n1 n2);have ji:=dO.1 Uz _ Γ;obtain⟨si,_,k1,_,_⟩:=h3 i oi hi;obtain⟨sj,E7,k3,k4,_⟩:=h3 j oj hj;simp only[nT,k1,k3,k4,Fp]at hw hp⊢;simp only[cN,hi,k1,k3,k4]at ji;split at ji
  ·rename_i N_;exact absurd N_ hw
  ·rename_i Y3 m' a' DW _;rw[Ξ]at DW;cases DW;rw[hp]at ji;simp only[ej]at ji;exact⟨F_ ji.1,F_ ji.2⟩
  ·cases ji
 ·intro i j oi oj ag m a hi hj Ξ ep n1 n2 hw d v off hp;have Γ:=OS (p:=q_) (q:=zz) hi hj (by rw[CQ Ξ];rfl) (by rw[ep];rfl) (HZ i j n1 n2);have ji:=dO.1 Uz _ Γ;obtain⟨si,_,k1,_,_⟩:=h3 i oi hi;obtain⟨sj,E7,k3,k4,_⟩:=h3 j oj hj;simp only[nT,k1,k3,k4,Fp]at hw hp⊢;simp only[cN,hi,k1,k3,k4]at ji;split at ji
  ·rename_i N_;exact absurd N_ hw
  ·rename_i Y3 m' a' DW _;rw[Ξ]at DW;cases DW;rw[hp]at ji;simp only[adu hj ep,amf,Bool.false_or,ej]at ji;exact⟨F_ ji.1,F_ ji.2⟩
  ·cases ji
 ·intro i j oi oj ag m a d hi hj Ξ ep n1 n2 v off hp;have Γ:=OS (p:=BJ) (q:=q_) hi hj (by rw[ep];rfl) (by rw[CQ Ξ];rfl) (HZ i j n1 n2);have ji:=dO.1 haf _ Γ;obtain⟨sj,E7,k3,k4,_⟩:=h3 j oj hj;simp only[nT,k3,Fp]at hp;simp only[nY,hi,hj,k3,Ξ,hp,agu ep]at ji;simp at ji
theorem Y7(hF:∀f,F.fn f)(hd:F.depth=none)(iR:nS F P base LC gl ay){l:List aW}(hc:uc P bj N ops ops.toList=some l){T:Nat->St}
  (he:qD ops.toList 0=true) (hT:Trace gl ay l T) (hO:Kh gl l T (fun i j=>i∈(iZ ops).getD j [])):
  ∀(fuel:Nat) (listed:Array Bool) (g:Gh) (lb:LB) (own:OW) (s:St) (a:Act) (w:World),listed.size=ops.size->listed.countP (fun b=>!b)<=fuel→
   (∀i o,ops[i]?=some o->kU listed i->∀e∈o.after,Region.binds .any e=true->kU listed e.on)->Inv l T (kU listed) s->SR gl base N LC cW g lb own s a w→
   (∀g' lb' aD a' w',eE g own w g' aD w'->SR gl base N LC cW g' lb' aD (T l.length) a' w'->Q .normal a' w')->wpAnyIn F n P .any ops Q fuel listed a w:=by
 have hlen:=R_ hc;simp only[Array.length_toList]at hlen;have Bp:∀(listed:Array Bool) (g:Gh) (lb:LB) (own:OW) (s:St) (a:Act) (w:World),listed.size=ops.size->Inv l T (kU listed) s->SR gl base N LC cW g lb own s a w→
   (∀g' lb' aD a' w',eE g own w g' aD w'->SR gl base N LC cW g' lb' aD (T l.length) a' w'->Q .normal a' w')->Region.ready .any ops listed=[]->Q .normal a w:=by
  intro listed g lb own s a w aL hI hs hQ hr;have jX:∀i,i<ops.size->kU listed i:=by
   intro i;induction i using aml with
   |_ i ih=>
    intro hi
    refine Classical.byContradiction fun hn=>?_;have:i∈Region.ready .any ops listed:=by refine mem_ready.2 ⟨(WJ (by omega)).1 hn,_,wz hi,fun e hm hb=>?_⟩;have:=aa5 he (i:=i) (o:=ops[i]) (by simp[hi]) e hm hb;exact ih e.on (by omega) (by omega)
    rw[hr]at this;cases this
  refine hQ _ _ _ _ _ (eE.refl _ _ _) (hs.congr fun r=>hI r l.length (bS _) (fun j o hj _ _=>jX j (by omega)) fun j o hj ho _ _=>?_);have:=(fB.1 ho).1;omega
 intro fuel;induction fuel with
 |zero=>
  intro listed g lb own s a w aL oW ep hI hs hQ
  have hr:Region.ready .any ops listed=[]:=by
   refine List.eq_nil_iff_forall_not_mem.2 fun i hi=>?_;obtain⟨h1,o,h2,_⟩:=mem_ready.1 hi;have ψ:i<listed.size:=by rw[aL];exact(An.1 h2).1
   have h0:listed.countP (fun b=>!b)=0:=by omega
   rw[Array.countP_eq_zero]at h0;have:=h0 listed[i] (ame ψ);simp[ψ]at h1;simp[h1]at this
  exact⟨hr,Bp listed g lb own s a w aL hI hs hQ hr⟩
 |succ fuel ih=>
  intro listed g lb own s a w aL oW ep hI hs hQ
  refine⟨Bp listed g lb own s a w aL hI hs hQ,fun i hi=>?_⟩;obtain⟨h1,o,h2,h3⟩:=mem_ready.1 hi;have ψ:i<listed.size:=by rw[aL];exact(An.1 h2).1
  have zs:¬kU listed i:=(WJ ψ).2 h1;obtain⟨o',r9,cH⟩:=R9 hc (i:=i) (o:=o) (by simpa using h2);have UA:=aar he ep aL;have Ip:∀j,j∈(iZ ops).getD i []->kU listed j:=by
   intro j hj;obtain⟨e,k1,k2,k3,k4⟩:=Pk he h2 hj;have:=h3 e k1 k2;rcases k4 with rfl|k4
   ·exact this
   ·exact UA _ _ k4 this
  obtain⟨s1,k1,k2⟩:=ahm hT hO hI (fun i j h h'=>UA j i h h') r9 zs Ip;refine X3 hF hd iR h2 cH hs k1 fun g' lb' aD a' w' h4 h5=>?_;refine ih _ g' lb' aD s1 a' w' (by simpa using aL) ?_ ?_ ?_ h5 fun g2 Ev qh a2 w2 h6 h7=>hQ _ _ _ _ _ (h4.trans h6) h7
  ·have hx:listed[i]=false:=by simpa[ψ]using h1
   rw[Array.setIfInBounds_def,dif_pos ψ,Array.countP_set];simp[hx];omega
  ·intro j oj hj hl e hm hb;rw[Wu ψ]at hl⊢;rcases hl with hl|rfl
   ·exact .inl (ep j oj hj hl e hm hb)
   ·rw[h2]at hj;cases hj;exact .inl (h3 e hm hb)
  ·have:kU (listed.setIfInBounds i true)=fun j=>kU listed j\/j=i:=funext fun j=>propext (Wu ψ j);rw[this];exact k2
end
section
variable(P:Program)(bj:Nat->Bool)(N:Nat)
def aiB(l:List aW):List Nat:=l.filterMap fun o=>match o.op with
 | .alloc true _| .box true _ _=>o.dst
 |_=>none
def KW(ops:Array Oper)(draw:Bool):AC:=match uc P bj N ops ops.toList with
 |some l=>if draw then(if P.follows .mixedOrders&&qD ops.toList 0&&CV l (iZ ops)then .draw l (sy l (iZ ops) q_ zz) (sy l (iZ ops) BJ q_)else
   match uc P (fun _=>false) N ops ops.toList with
   |some l'=>if P.follows .mixedOrders&&qD ops.toList 0&&CV l' (iZ ops)then .seq (.draw l' (sy l' (iZ ops) q_ zz) (sy l' (iZ ops) BJ q_)) (.ER (aiB l))else .bad
   |none=> .bad)else .ops l
 |none=> .bad
def ky:Bool->Code->AC
 |_,.skip=> .skip
 |_,.region _ ops draw=>KW P bj N ops draw
 |rf,.seq a b=> .seq (ky rf a) (ky rf b)
 |rf,.cond x a b=>match cB x with
  |some x=> .cond x (ky rf a) (ky rf b)
  |none=> .bad
 |rf,.block id a=> .block id (ky rf a)
 |rf,.loop a=> .loop (ky rf a)
 |_,.exit id=> .exit id
 |_,.ret=> .ret
 |_,.label _=> .skip
 |rf,.scope a=>ky rf a
 |rf,.rangeFunc f ps fQ body=>match cB f with
  |some f=>if rf&&ps.toList.all (fun p=>decide (p<N))then .B6 f ps.toList (ky false fQ) (ky false body)else .bad
  |none=> .bad
 |_,_=> .bad
end
def Ex.AX:Ex->Exit
 | .normal=> .normal
 | .exit i=> .exit i
 | .ret=> .ret
section
variable{F:Fence}{n:Nat}{P:Program}{bj:Nat->Bool}{N:Nat}{gl:Nat->AV}{base:Nat}{LC:eY}{cW:Nat}{ay:cx}
theorem aiA{d:Nat}{g:Gh}{lb:LB}{own:OW}{s s':St}{a:Act}{w:World}(hs:SR gl base N LC cW g lb own s a w)(h:ES d s=some s'):
  ∃g' aD,eE g own w g' aD w/\SR gl base N LC cW g' lb aD s' a w:=by
 unfold ES at h;split at h
 ·rename_i d' v hd;split at h
  ·rename_i v' l hl;split at h
   ·rename_i fF;obtain⟨rfl,rfl⟩:=fF;cases h;obtain⟨b,hb,hc⟩:=hs.loc.cells _ _ _ hl;have DS:g.mb s.mem.ε.length=none:=by
     cases hx:g.mb s.mem.ε.length with
     |none=>rfl
     |some y=>have:=hs.mem.jx _ _ hx;omega
    let mZ:Nat->Option Nat:=fun id=>if id=s.mem.ε.length then some b else g.mb id;let aD:OW:=fun b'=>if b'=b then some (.m s.mem.ε.length)else own b';have dh:g.sub {g with mb:=mZ}:=⟨fun _ _ _ h=>h,fun id c hc=>by simp only[mZ];rw[if_neg (fun he=>by rw[he,DS]at hc;cases hc)];exact hc,fun _ _ _ h=>h⟩;have Ω:eE g own w {g with mb:=mZ} aD w:=⟨dh,bS _,rfl,rfl,rfl,fun _ _ _=>rfl,fun b' _ aY=>by simp only[aD];rw[if_neg (fun he=>by rw[he,hc.1]at aY;cases aY)];exact aY,fun _ _ _ _=>rfl⟩;have lP:bc g aD LC s.mem w:=hs.mem.bf g.eS (fun _ h=>h) (fun _ _ h=>h) (fun id b' aY=>⟨by simp only[aD];rw[if_neg (fun he=>by rw[he,hc.1]at aY;cases aY)],rfl,fun _=>rfl⟩) hs.mem.im;refine⟨{g with mb:=mZ},aD,Ω,⟨fun t=>?_,hs.gl.mono dh,hs.size,hs.defers.bf Ω,?_,?_,⟨fun b' o aY=>?_,hs.own.base⟩⟩⟩
    ·have ht:=(hs.env t).sub dh;simp only[fL];split
     ·rename_i MT;subst MT;rw[hd]at ht;generalize a.tmps.getD _ undef=x at ht;cases ht with
      |aj _ _ _ _ b' aY=>
       rw[hb]at aY
       cases aY;exact .μ _ _ _ _ (by simp[mZ])
     ·exact ht
    ·refine hs.mem.push lP _ mZ (fun id c hc=>?_) (fun id hid=>if_neg (by omega)) ?_
     ·simp only[mZ]at hc;split at hc
      ·exact .inr (by assumption)
      ·exact .inl hc
     ·obtain⟨_,h2,ar,e,h3,h4,h5,h6⟩:=hc;refine⟨b,by simp[mZ],by simp[aD],h2,ar,e,h3,by simpa using h4,fun i hi ae=>?_,h6⟩;simp only[ja];exact(I_ hs.mem (h5 i (by simpa using hi) ae)).sub dh
    ·refine⟨fun d2 v2 l2 rV=>?_,fun d2 v2 s2 p2 rV=>?_,fun d2 v2 b2 dz=>?_⟩
     ·simp only[iu]at rV;split at rV
      ·cases rV
      ·rename_i φ;obtain⟨b2,k1,k2⟩:=hs.loc.cells _ _ _ rV;refine⟨b2,k1,k2.bf dh (fun _ _ _ h=>h) ?_ rfl fun _=>rfl⟩;simp only[aD];rw[if_neg (fun he=>by
        have:=k2.1
        rw[he,hc.1]at this;simp only[bh,Own.l.injEq]at this;exact φ this)]
     ·simp only[iu]at rV;split at rV
      ·cases rV
      ·rename_i φ;obtain⟨b2,k1,k2,k3⟩:=hs.loc.iter _ _ _ _ rV;refine⟨b2,k1,?_,k3⟩;simp only[aD];rw[if_neg (fun he=>by
        rw[he,hc.1]at k2
        simp only[bh,Own.l.injEq]at k2;exact φ k2)]
       exact k2
     ·obtain⟨v3,blk,k1,k2⟩:=hs.loc.wu _ _ _ dz;simp only[iu];split
      ·rename_i iq;subst iq;rw[hl]at k1;cases k1;exact⟨_,_,rfl,k2⟩
      ·exact⟨v3,blk,k1,k2⟩
    ·simp only[aD]at aY;split at aY
     ·rename_i he;subst he;exact hs.own.ge _ _ hc.1
     ·exact hs.own.ge _ _ aY
   ·cases h
  ·cases h
 ·cases h
theorem Xr:∀{l:List Nat} {g:Gh} {own:OW} {lb:LB} {s s':St} {a:Act} {w:World},SR gl base N LC cW g lb own s a w->BX l s=some s'→
  ∃g' aD,eE g own w g' aD w/\SR gl base N LC cW g' lb aD s' a w
 |[],g,own,lb,s,s',a,w,hs,h=>by cases h;exact⟨g,own,.refl _ _ _,hs⟩
 |d::l,g,own,lb,s,s',a,w,hs,h=>by
  simp only[BX]at h;split at h
  ·rename_i h1;obtain⟨g1,uM,k1,k2⟩:=aiA hs h1;obtain⟨g2,qh,k3,k4⟩:=Xr k2 h;exact⟨g2,qh,k1.trans k3,k4⟩
  ·cases h
theorem Sy(hF:∀f,F.fn f)(hd:F.depth=none)(iR:nS F P base LC gl ay){id:Nat}{ops:Array Oper}{l:List aW}(hc:uc P bj N ops ops.toList=some l)
  (ai:(P.follows .mixedOrders&&qD ops.toList 0&&CV l (iZ ops))=true) {g:Gh} {lb:LB} {own:OW} {s s1:St} {a:Act} {w:World}
  (hs:SR gl base N LC cW g lb own s a w) (hx:e_ gl ay l (sy l (iZ ops) q_ zz) (sy l (iZ ops) BJ q_) s=some s1) {Q:Exit->Act->World->Prop}
  (hQ:∀g' lb' aD a' w',eE g own w g' aD w'->SR gl base N LC cW g' lb' aD s1 a' w'->Q .normal a' w'):(Code.region id ops true).wpIn F n P Q a w:=by
 simp only[ej]at ai;unfold e_ at hx;split at hx
 ·rename_i tr BD;split at hx
  ·rename_i eG;simp only[ej]at eG;obtain⟨hT,hO⟩:=ahl ai.1.2 ai.2 BD eG.1 eG.2;obtain⟨k1,k2,k3⟩:=QB BD;have xf:tr.getD 0 s=s:=by simp[nT,k2]
   have hTn:tr.getD l.length s=s1:=by rw[List.getLast?_eq_getElem?,k1]at hx;simp at hx;simp[nT,hx]
   obtain⟨d1,d2⟩:=hs.drawn (w.drawn+1);refine wpIn_region_any ai.1.1 (Y7 hF hd iR hc ai.1.2 hT hO ops.size _ g lb own s a _ (by simp) ?_ ?_ ?_ d1 ?_)
   ·exact va Array.countP_le_size (by simp)
   ·intro i o ho hl;unfold kU at hl;rcases da i ops.size with h|h<;>simp[h]at hl
   ·intro r k hk h1 h2;have:∀j,¬kU (amn ops.size false) j:=fun j hl=>by unfold kU at hl;rcases da j ops.size with h|h<;>simp[h]at hl
    have Ir:=hT.same (r:=r) (i:=0) (Nat.zero_le k) hk fun j o _ hj ho hw=>this j (h1 j o hj ho hw);simp only[xf]at Ir;exact Qo Ir
   ·intro g' lb' aD a' w' h1 h2;rw[hTn]at h2;exact hQ _ _ _ _ _ (d2.trans h1) h2
  ·cases hx
 ·cases hx
theorem ai2(hF:∀f,F.fn f)(hd:F.depth=none)(iR:nS F P base LC gl ay){id:Nat}{ops:Array Oper}{draw:Bool}{lp:pJ}{g:Gh}{lb:LB}{own:OW}{s s':St}{ex:Ex}{a:Act}{w:World}
  (hs:SR gl base N LC cW g lb own s a w) (hx:exec gl ay lp (KW P bj N ops draw) s=some (ex,s')) {Q:Exit->Act->World->Prop}
  (hQ:∀g' lb' aD a' w',eE g own w g' aD w'->SR gl base N LC cW g' lb' aD s' a' w'->Q ex.AX a' w'):(Code.region id ops draw).wpIn F n P Q a w:=by
 unfold KW at hx;split at hx
 ·rename_i l hc;split at hx
  ·rename_i yY;subst yY;split at hx
   ·rename_i ai;simp only[exec,bD,aA]at hx;obtain⟨s1,hx,rfl,rfl⟩:=hx;exact Sy hF hd iR hc ai hs hx hQ
   ·split at hx
    ·rename_i l' gX;split at hx
     ·rename_i ai;simp only[exec]at hx;cases qX:e_ gl ay l' (sy l' (iZ ops) q_ zz) (sy l' (iZ ops) BJ q_) s with
      |none=>rw[qX]at hx;cases hx
      |some s1=>
       rw[qX]at hx
       simp only[qx,bD,aA]at hx;obtain⟨s2,hx,rfl,rfl⟩:=hx;refine Sy hF hd iR gX ai hs qX fun g' lb' aD a' w' h1 h2=>?_;obtain⟨g2,qh,k1,k2⟩:=Xr h2 hx;exact hQ _ _ _ _ _ (h1.trans k1) k2
     ·cases hx
    ·cases hx
  ·rename_i yY;obtain rfl:draw=false:=by simpa using yY
   simp only[exec,bD,aA]at hx;obtain⟨s1,hx,rfl,rfl⟩:=hx;refine wpIn_region ?_;have:=ahk (n:=n) (Q:=Q) hF hd iR hc ops.size 0 g lb own s s1 a w (by simp) hs (by simpa using hx) hQ;simpa using this
 ·cases hx
end
theorem Gh.aaE(g:Gh)(n:Nat):(g.cut n).cut n=g.cut n:=by
 unfold Gh.cut;congr 1
 ·funext id;by_cases h:id<n<;>simp[h]
 ·funext t m;by_cases h:t<n<;>simp[h]
theorem Gh.F0(g:Gh)(n:Nat):(g.cut n).sub g:=
 ⟨fun _ _ _ h=>h,fun id b h=>(by simp only[Gh.cut]at h;split at h<;>first|exact h|cases h),fun t m x h=>(by simp only[Gh.cut]at h;split at h<;>first|exact h|cases h)⟩
theorem aad{g:Gh}{n b o cap id k:Nat}{c:ρ}(h:nu g n b o cap c)(hl:c.lo id=true)(hk:id<k):nu (g.cut k) n b o cap c:=by
 cases c with
 |any=>trivial
 |nil=>exact h
 |full=>exact h
 |own t=>
  simp only[ρ.lo,decide_eq_true_eq]at hl
  exact⟨h.1,by simp only[Gh.cut];rw[if_pos (by omega)];exact h.2⟩
theorem ON{id:Nat}{v:AV}(h:lo id v=true):∀x∈v.cells,lo id x=true:=by
 intro x hx;cases v with
 |agg l=>simp only[lo,mn,dO]at h;exact h x hx
 |aQ l=>cases hx
 |undef=>cases hx
 |_=>simp only[AV.cells,List.mem_singleton]at hx;subst hx;exact h
theorem VR.aaF{g:Gh}{lb:LB}{v:AV}{x:Value}(h:VR g lb v x){id n:Nat}(hn:id<n)(hl:lo id v=true):VR (g.cut n) lb v x:=by
 induction h with
 |undef=>exact .undef _
 |cY _ x h=>exact .cY _ x h
 |int _ k n=>exact .int _ k n
 |bool _ b=>exact .bool _ b
 |str _ b s h=>exact .str _ b s h
 |iW=>exact .iW _
 |aj _ d v off b h=>exact .aj _ d v off b h
 |μ _ mW off b h=>
  simp only[lo,decide_eq_true_eq]at hl
  exact .μ _ mW off b (by simp only[Gh.cut];rw[if_pos (by omega)];exact h)
 |ref _ l b o xs cC _ ih=>
  simp only[lo,mn,dO]at hl
  exact .ref _ l b o xs cC fun i hi=>ih i hi (hl _ (c_ hi))
 |iU=>exact .iU _
 |iw _ c a cap hc=>exact .iw _ c a cap hc
 |sl _ kd mW off m cap gq b hc eG h=>
  simp only[lo,decide_eq_true_eq]at hl
  exact .sl _ kd mW off m cap gq b hc eG (by simp only[Gh.cut];rw[if_pos (by omega)];exact h)
 |list _ c l b o sz m cap xs hm dQ hc aL cC _ ih=>
  simp only[lo,mn,ej,dO]at hl
  exact .list _ c l b o sz m cap xs hm dQ (aad hc hl.1 hn) aL cC fun i hi j hj=>ih i hi j hj (ON (hl.2 _ (c_ hi)) _ (c_ hj))
 |agg _ l a hs h1 _ ih=>
  simp only[lo,mn,dO]at hl
  exact .agg _ l a hs h1 fun i hi ae=>ih i hi ae (hl _ (c_ hi))
 |aQ _ l a hs _ ih=>
  simp only[lo,mn,dO]at hl
  exact .aQ _ l a hs fun i hi ae=>ih i hi ae (hl _ (c_ hi))
 |fn _ f f' l m a b hs ht hy _ _ qZ pg=>
  simp only[lo,mn,ej,dO]at hl
  refine .fn _ f f' l m a b hs ht ?_ (fun i hi ae=>qZ i hi ae (hl.1.2 _ (c_ hi))) (fun i hi ae=>pg i hi ae (hl.2 _ (c_ hi)));cases f<;>cases f'<;>first|exact hy|exact hy.elim|skip
  rename_i i b;have:=hl.1.1;simp only[Fn.below,decide_eq_true_eq]at this;simp only[sK,Gh.cut]at hy⊢;rw[if_pos (by omega)];exact hy
 |fX=>exact .fX _
 |iface _ t v x _ ih=>exact .iface _ t v x (ih hl)
 |gy=>exact .gy _
 |map _ mW b h=>
  simp only[lo,decide_eq_true_eq]at hl
  exact .map _ mW b (by simp only[Gh.cut];rw[if_pos (by omega)];exact h)
 |gZ=>exact .gZ _
theorem VR.Sq{g:Gh}{lb:LB}{v:AV}{x:Value}(h:VR g lb v x){g0:Gh}{n:Nat}(hd:∀id b,g0.mb id=some b->id<n)(hr:∀t m y,g0.rows t m=some y->t<n):
  ∀{lb0:LB} {x0:Value},VR g0 lb0 v x0->VR (g.cut n) lb v x:=by
 induction h with
 |undef=>intro _ _ _;exact .undef _
 |cY _ x h=>intro _ _ _;exact .cY _ x h
 |int _ k n=>intro _ _ _;exact .int _ k n
 |bool _ b=>intro _ _ _;exact .bool _ b
 |str _ b s h=>intro _ _ _;exact .str _ b s h
 |iW=>intro _ _ _;exact .iW _
 |aj _ d v off b h=>intro _ _ _;exact .aj _ d v off b h
 |μ _ mW off b h=>
  intro _ _ h0
  cases h0 with
  |μ _ _ _ b0 gL=>exact .μ _ mW off b (by simp only[Gh.cut];rw[if_pos (hd _ _ gL)];exact h)
 |ref _ l b o xs cC _ ih=>
  intro _ _ h0
  cases h0 with
  |ref _ _ b0 o0 xs0 Nf vU=>exact .ref _ l b o xs cC fun i hi=>ih i hi (vU i hi)
 |iU=>intro _ _ _;exact .iU _
 |iw _ c a cap hc=>intro _ _ _;exact .iw _ c a cap hc
 |sl _ kd mW off m cap gq b hc eG h=>
  intro _ _ h0
  cases h0 with
  |sl _ _ _ _ _ _ _ b0 Bn _ gL=>exact .sl _ kd mW off m cap gq b hc eG (by simp only[Gh.cut];rw[if_pos (hd _ _ gL)];exact h)
 |list _ c l b o sz m cap xs hm dQ hc aL cC _ ih=>
  intro _ _ h0
  cases h0 with
  |iU=>exact hc.elim
  |iw _ c0 a0 aac Bn=>
   refine .list _ c [] b o sz m cap xs hm dQ ?_ aL cC fun i hi=>absurd hi (Nat.not_lt_zero _)
   rcases Bn with rfl|⟨rfl,_⟩
   ·trivial
   ·exact hc
  |list _ _ _ b0 o0 sz0 m0 aac xs0 UZ ak4 Bn alk Nf vU=>
   refine .list _ c l b o sz m cap xs hm dQ ?_ aL cC fun i hi j hj=>ih i hi j hj (vU i hi j hj)
   cases c with
   |any=>trivial
   |nil=>exact hc
   |full=>exact hc
   |own t=>exact⟨hc.1,by simp only[Gh.cut];rw[if_pos (hr _ _ _ Bn.2)];exact hc.2⟩
 |agg _ l a hs h1 _ ih=>
  intro _ _ h0
  cases h0 with
  |agg _ _ a0 kQ aw vU=>exact .agg _ l a hs h1 fun i hi ae=>ih i hi ae (vU i hi (by omega))
 |aQ _ l a hs _ ih=>
  intro _ _ h0
  cases h0 with
  |aQ _ _ a0 kQ vU=>exact .aQ _ l a hs fun i hi ae=>ih i hi ae (vU i hi (by omega))
 |fn _ f f' l m a b hs ht hy _ _ qZ pg=>
  intro _ _ h0
  cases h0 with
  |fn _ _ f0 _ _ a0 b0 kQ ht0 Ef vU zu=>
   refine .fn _ f f' l m a b hs ht ?_ (fun i hi ae=>qZ i hi ae (vU i hi (by omega))) (fun i hi ae=>pg i hi ae (zu i hi (by omega)))
   cases f<;>cases f'<;>first|exact hy|exact hy.elim|skip
   cases f0<;>first|exact Ef.elim|skip
   simp only[sK,Gh.cut]at hy Ef⊢;rw[if_pos (hd _ _ Ef)];exact hy
 |fX=>intro _ _ _;exact .fX _
 |iface _ t v x _ ih=>
  intro _ _ h0
  cases h0 with
  |iface _ _ _ x0 h0=>exact .iface _ t v x (ih h0)
 |gy=>intro _ _ _;exact .gy _
 |map _ mW b h=>
  intro _ _ h0
  cases h0 with
  |map _ _ b0 gL=>exact .map _ mW b (by simp only[Gh.cut];rw[if_pos (hd _ _ gL)];exact h)
 |gZ=>intro _ _ _;exact .gZ _
def E2(n:Nat):Nat->θ->θ
 |0,b=>b
 |k+1,b=>E2 n k (b.B9 n)
theorem ajV(n:Nat):∀(t:List Nat) (bs:List θ) (id:Nat) (blk:θ),(lV n t bs)[id]?=some blk->∃b0 k,bs[id]?=some b0/\blk=E2 n k b0/\(k=0->id∉t):=by
 intro t;induction t with
 |nil=>intro bs id blk h;exact⟨blk,0,h,rfl,fun _ h=>by cases h⟩
 |cons i t ih=>
  intro bs id blk h
  simp only[lV]at h;obtain⟨b0,k,h1,h2,h3⟩:=ih _ id blk h;split at h1
  ·rename_i b hb;rw[wH]at h1;split at h1
   ·rename_i hi;subst hi;split at h1
    ·cases h1;exact⟨b,k+1,hb,h2,fun h=>by omega⟩
    ·cases h1
   ·rename_i hi;exact⟨b0,k,h1,h2,fun hk hm=>by rcases cy.1 hm with rfl|hm;exact hi rfl;exact h3 hk hm⟩
  ·rename_i hb;refine⟨b0,k,h1,h2,fun hk hm=>?_⟩;rcases cy.1 hm with rfl|hm
   ·rw[hb]at h1;cases h1
   ·exact h3 hk hm
theorem E3{n k:Nat}{b:θ}(h:∀l,b≠ .cells l):E2 n k b=b:=by
 induction k with
 |zero=>rfl
 |succ k ih=>
  have:b.B9 n=b:=by cases b<;>first|rfl|exact absurd rfl (h _)
  rw[E2,this,ih]
theorem ajU{g:Gh}{n:Nat}:∀(k:Nat) (l:List AV),∃l',E2 n (k+1) (.cells l)= .cells l'/\l'.length=l.length∧
  ∀i (h:i<l.length) (h':i<l'.length) x,VR g bV l[i] x->VR (g.cut n) bV l'[i] x:=by
 intro k;induction k generalizing g with
 |zero=>
  intro l
  refine⟨_,rfl,by simp,fun i h h' x hx=>?_⟩;simp only[ja];exact hx.exp n true
 |succ k ih=>
  intro l
  obtain⟨l',h1,h2,h3⟩:=ih (g:=g.cut n) (l.map (exp n true));refine⟨l',h1,by simpa using h2,fun i h h' x hx=>?_⟩;have:=h3 i (by simpa using h) h' x (by simp only[ja];exact hx.exp n true);rwa[Gh.aaE]at this
def qi(n:Nat)(own:OW):OW:=fun b=>match own b with
 |some (.m id)=>if id<n then some (.m id)else none
 |_=>none
theorem zQ{n:Nat}{own:OW}{b id:Nat}(h:own b=some (.m id))(hid:id<n):qi n own b=some (.m id):=by simp[qi,h,hid]
theorem BR{n:Nat}{own:OW}{b:Nat}{o:Own}(h:qi n own b=some o):own b=some o/\∃id,o= .m id:=by
 unfold qi at h;split at h
 ·rename_i id he;split at h
  ·cases h;exact⟨he,id,rfl⟩
  ·cases h
 ·cases h
theorem WZ{n:Nat}{own:OW}{b:Nat}(h:own b=none):qi n own b=none:=by simp[qi,h]
theorem QH{g0:Gh}{Ji:OW}{LC:eY}{m0:Mem}{w0:World}(h0:bc g0 Ji LC m0 w0){g:Gh}{own:OW}{m:Mem}{w:World}(h:bc g own LC m w){extra:List θ}
  (hk:KM {ε:=m0.ε++extra,η:=[]} m):bc (g.cut m0.ε.length) (qi m0.ε.length own) LC (m0.back m) w:=by
 have hlen:m0.ε.length<=m.ε.length:=by have:=hk.len;simp at this;omega
 have eC:(m0.back m).ε.length=m0.ε.length:=Kx hlen;refine⟨fun id b hb=>?_,fun t k x hx=>?_,fun id blk hb=>?_,h.im⟩
 ·rw[eC];simp only[Gh.cut]at hb;split at hb<;>first|assumption|cases hb
 ·rw[eC];simp only[Gh.cut]at hx;split at hx<;>first|assumption|cases hx
 ·have hid:id<m0.ε.length:=by have:=(fB.1 hb).1;omega
  simp only[Mem.back]at hb;obtain⟨b0,k,h1,h2,h3⟩:=ajV _ _ _ _ _ hb;rw[List.getElem?_take_of_lt hid]at h1;have hB:=h.blk id b0 h1;have jA:∀b,g.mb id=some b->(g.cut m0.ε.length).mb id=some b:=fun b hb=>by simp only[Gh.cut];rw[if_pos hid];exact hb
  cases b0 with
  |cells l=>
   obtain⟨b,k1,k2,k3,a,e,k4,k5,k6,k7⟩:=hB
   cases k with
   |succ k=>
    obtain⟨l',q1,q2,q3⟩:=ajU (g:=g) (n:=m0.ε.length) k l
    rw[h2,q1];exact⟨b,jA b k1,zQ k2 hid,k3,a,e,k4,by omega,fun i hi ae=>q3 i (by omega) hi _ (k6 i (by omega) ae),k7⟩
   |zero=>
    rw[h2]
    refine⟨b,jA b k1,zQ k2 hid,k3,a,e,k4,k5,fun i hi ae=>?_,k7⟩;have hv:=k6 i hi ae;rcases hk.cells id l h1 (by simp;omega) (h3 rfl) l[i] (c_ hi)with⟨Wo,q1,q2⟩|q1
    ·rw[ek hid]at q1;obtain⟨b',r1,r2,r3,a',e',r4,r5,r6,r7⟩:=h0.blk id _ q1;obtain⟨j,hj,hje⟩:=pG.1 q2;have hx:=r6 j hj (by omega);rw[hje]at hx;exact hv.Sq h0.jx h0.nO hx
    ·exact hv.aaF hid q1
  |iter s pos=>exact hB.elim
  |dead=>
   rw[h2,E3 (by simp)]
   trivial
  |nX T e s=>
   rw[h2,E3 (by simp)]
   obtain⟨b,k1,k2,k3,p,v,k4,k5,k6,k7⟩:=hB;refine⟨b,jA b k1,zQ k2 hid,k3,p,v,k4,k5,k6,?_⟩;rcases k7 with k7|⟨r,cap,cur,q1,q2,q3⟩
   ·exact .inl k7
   ·exact .inr ⟨r,cap,cur,q1,zQ q2 hid,q3⟩
  |map es=>
   rw[h2,E3 (by simp)]
   obtain⟨b,k1,k2,k3,a,c,k4,k5,k6,k7⟩:=hB;refine⟨b,jA b k1,zQ k2 hid,k3,a,c,k4,k5,fun i hi ae=>?_,k7⟩;obtain⟨q1,q2⟩:=k6 i hi ae;obtain⟨p1,p2⟩:=k7 _ (c_ hi);have r1:=VR.exp (lb':=bV) m0.ε.length true q1;have r2:=VR.exp (lb':=bV) m0.ε.length true q2;rw[C6 _ _ _ p1]at r1;rw[C6 _ _ _ p2]at r2;exact⟨r1,r2⟩
  |front c sz e=>
   rw[h2,E3 (by simp)]
   obtain⟨k0,b,cap,k1,k2,k3,k4,k5,k6,k7⟩:=hB;refine⟨k0,b,cap,by simp only[Gh.cut];rw[if_pos hid];exact k1,k2,zQ k3 hid,k4,k5,fun m' x hx=>k6 m' x ?_,by simp only[Gh.cut];rw[if_pos hid];exact k7⟩;simp only[Gh.cut]at hx;rw[if_pos hid]at hx;exact hx
  |loop env ps fQ body st=>
   rw[h2,E3 (by simp)]
   obtain⟨b,k1,k2,k3,L,N,k4,k5,k6,k7,k8,k9,k10,zC,VH⟩:=hB;exact⟨b,jA b k1,zQ k2 hid,k3,L,N,k4,fun t=>by
    obtain⟨g0,x0,q1,q2,q3⟩:=VH t
    exact(k5 t).Sq (fun i b hb=>Nat.lt_trans (q1 i b hb) hid) (fun i m y hy=>Nat.lt_trans (q2 i m y hy) hid) q3,k6,k7,k8,k9,k10,zC,VH⟩
def Co(P:Program)(ay:cx):Prop:=
 ∀f first cap l mem r,ay (.fn (.func f) first cap) [.fn (.yield l) [] []] mem=some r->∃fn,P.funcs[f]?=some fn/\fn.body.isNone=false/\(fn.name== "runtime.NumGoroutine")=false
theorem W1{base:Nat}{own:OW}{w:World}(ho:bT base own w):gP own w.heap.size none=own:=by
 funext b;simp only[gP];split
 ·rename_i h;subst h;cases hx:own w.heap.size with
  |none=>rfl
  |some o=>exact absurd rfl (zR ho hx)
 ·rfl
theorem TH(l:List AV)(t:Nat):aK (l.map ν) t=ν (aK l t):=by
 induction l generalizing t with
 |nil=>rfl
 |cons a l ih=>cases t with
  |zero=>rfl
  |succ t=>exact ih t
theorem EY{P:Program}{f:FuncId}{fn:Func}{args:Array Value}{w:World}(h:P.funcs[f]?=some fn)(hb:fn.body.isNone=false)(hn:(fn.name== "runtime.NumGoroutine")=false):
  (callFunc f args).run P w= .ok (.enter f args) w:=by
 have h1:(program:Sem Program).run P w= .ok P w:=rfl;simp only[callFunc,Sem.run_bind,h1,Result.andThen_ok,h,hn,hb,jV,if_false];rfl
section
variable{F:Fence}{n:Nat}{P:Program}{bj:Nat->Bool}{N:Nat}{gl:Nat->AV}{base:Nat}{LC:eY}{cW:Nat}{ay:cx}
theorem ads{v fv:AV}(h:v.zA=some fv):∃f a b,v= .fn (.func f) a b/\fv=v:=by
 unfold AV.zA at h;split at h
 ·cases h;exact⟨_,_,_,rfl,rfl⟩
 ·cases h
theorem ai'(hF:∀f,F.fn f)(hd:F.depth=none)(vQ:F.round=none)(iR:nS F P base LC gl ay)(xk:Co P ay)(hK:KC ay)
  {g:Gh} {lb:LB} {own:OW} {s s':St} {ex:Ex} {a:Act} {w:World} (hs:SR gl base N LC cW g lb own s a w) {f:Operand} {f':br} (hf:cB f=some f')
  {ps:Array Tmp} {fQ body:Code} {FD yy:AC} (ha:LC N FD fQ) (hb:LC N yy body) (cX:∀p∈ps.toList,p<N) {lp:pJ}
  (hx:exec gl ay lp (.B6 f' ps.toList FD yy) s=some (ex,s')) {Q:Exit->Act->World->Prop}
  (hQ:∀g' lb' aD a' w',eE g own w g' aD w'->SR gl base N LC cW g' lb' aD s' a' w'->Q ex.AX a' w'):(Code.rangeFunc f ps fQ body).wpIn F n P Q a w:=by
 simp only[exec]at hx;split at hx
 ·rename_i r m hc;obtain⟨fv,DF,hc⟩:=Cv.1 hc;obtain⟨oc,A,B,aq,rfl⟩:=ads DF;have xD:=hs.ev _ _ hf;rw[aq]at xD hc;obtain⟨As,Bs,Un⟩:∃As Bs,a.eval f= .func (.func oc) As Bs:=by
   generalize a.eval f=y at xD;cases xD with
   |fn _ _ f2 _ _ As Bs _ _ hy=>
    cases f2<;>first|exact hy.elim|skip
    cases hy;exact⟨As,Bs,rfl⟩
  obtain⟨fn0,MX,MY,hf3⟩:=xk _ _ _ _ _ _ hc;refine wpIn_rangeFunc fun fn oq=>?_;have hlen:∀id b,g.mb id=some b->id<s.mem.ε.length:=hs.mem.jx;have zq:SR gl base N LC cW g lb own s {a with defers:=zI w.heap.size::a.defers} (w.alloc (.deferred (some []))):=by
   have hm:=hs.mem.alloc hs.own (.deferred (some [])) none;have hl:=hs.loc.alloc hs.own (.deferred (some [])) none;have ho:=hs.own.alloc (.deferred (some [])) none;rw[W1 hs.own]at hm hl ho;refine⟨hs.env,hs.gl,hs.size,?_,hm,hl,ho⟩;obtain⟨h0,ms,h1,h2,h3⟩:=hs.defers;refine⟨by simp;omega,w.heap.size::ms,yk.2 ⟨fun hm=>by have:=(h3 _ hm).2.1;omega,h1⟩,by simp[h2],fun r hr=>?_⟩;rcases cy.1 hr with rfl|hr
   ·refine⟨h0,by simp,?_,qK w _⟩;cases hx:own w.heap.size with
    |none=>rfl
    |some o=>exact absurd rfl (zR hs.own hx)
   ·obtain⟨k1,k2,k3,k4⟩:=h3 r hr;exact⟨k1,by simp;omega,k3,(um w _ k2).trans k4⟩
  have Vm:eE g own w g own (w.alloc (.deferred (some []))):=by have:=eE.alloc g own w (.deferred (some [])) none;rwa[W1 hs.own]at this
  obtain⟨wA,Vr⟩:∃wA,wA=w.alloc (.deferred (some [])):=⟨_,rfl⟩;rw[<-Vr]at zq Vm;obtain⟨L,hL⟩:∃L:Loop,L= {state:= .ready,pending:=none,fn,tmps:=a.tmps,params:=ps,assign:=fQ,body,defers:=w.heap.size}:=⟨_,rfl⟩;let gB:Gh:= {g with mb:=fun id=>if id=s.mem.ε.length then some wA.heap.size else g.mb id};let uO:OW:=gP own wA.heap.size (some (.m s.mem.ε.length));let wB:World:=wA.alloc (.loop L);have Iu:g.sub gB:=⟨fun _ _ _ h=>h,fun id b hb=>by
   have:=hlen id b hb
   simp only[gB];rw[if_neg (by omega)];exact hb,fun _ _ _ h=>h⟩
  have hmB:bc gB uO LC {ε:=s.mem.ε++[.loop (s.env.map s.mem.ν) ps.toList FD yy .ready],η:=[]} wB:=by
   have hm:=zq.mem;have:=hm.push (hm.alloc zq.own (.loop L) (some (.m s.mem.ε.length))) (.loop (s.env.map s.mem.ν) ps.toList FD yy .ready) gB.mb (fun id b hb=>?_) (fun id hid=>?_) ?_
   ·exact⟨this.jx,this.nO,this.blk,this.im⟩
   ·simp only[gB]at hb;split at hb
    ·exact .inr (by assumption)
    ·exact .inl hb
   ·exact if_neg (by omega)
   ·refine⟨wA.heap.size,by simp[gB],by simp[gP],(show∀o,g.im wA.heap.size o=none from xJ hm),L,N,qK wA _,fun t=>?_,by rw[hL],by rw[hL];exact zq.size,cX,by rw[hL];exact ha,by rw[hL];exact hb,?_,fun t=>?_⟩
    ·have:=(hs.env t).ν (lb':=bV);rw[show(s.env.map s.mem.ν)=s.env.map ν from rfl,TH,hL];exact this.sub Iu
    ·rw[hL];exact⟨rfl,rfl⟩
    ·refine⟨g,a.tmps.getD t undef,hm.jx,hm.nO,?_⟩;rw[show(s.env.map s.mem.ν)=s.env.map ν from rfl,TH];exact(hs.env t).ν
  have hoB:bT base uO wB:=zq.own.alloc _ _;have hyB:VR gB lb (.fn (.yield s.mem.ε.length) [] []) (.func (.yield wA.heap.size) #[] #[]):=
   .fn _ _ _ _ _ _ _ rfl rfl (by simp[sK,gB]) (fun i hi=>by simp at hi) (fun i hi=>by simp at hi)
  have Dy:=iR (n-1) gB lb uO _ wB _ _ _ _ (a.eval f) #[.func (.yield wA.heap.size) #[] #[]] hmB hoB (hs.gl.mono Iu) (by rw[Un]at xD⊢;exact xD.sub Iu)
   (PW.cons hyB PW.nil) hc
  have Va:(Deferred.ofValue (a.eval f) #[.func (.yield wA.heap.size) #[] #[]]).run P wB= .ok {target:= .fn (.func oc) Bs,args:=As++ #[.func (.yield wA.heap.size) #[] #[]]} wB:=by rw[Un];rfl
  have hinv:(invoke (.fn (.func oc) Bs) (As++ #[.func (.yield wA.heap.size) #[] #[]])).run P wB= .ok (.enter oc (As++ #[.func (.yield wA.heap.size) #[] #[]]++Bs)) wB:=by simp only[invoke];exact EY MX MY hf3
  have dZ:(do let d<-Deferred.ofValue (a.eval f) #[.func (.yield wA.heap.size) #[] #[]];invoke d.target d.args:Sem Next).run P wB= .ok (.enter oc (As++ #[.func (.yield wA.heap.size) #[] #[]]++Bs)) wB:=by simp only[Sem.run_bind,Va,Result.andThen_ok,hinv]
  have ac5:(resolve a.eval (rangeCall f wA.heap.size) 0).run P wB= .ok {target:= .fn (.func oc) Bs,args:=As++ #[.func (.yield wA.heap.size) #[] #[]]} wB:=by
   have:(#[Operand.const (.func (.yield wA.heap.size) #[] #[])].map a.eval)= #[.func (.yield wA.heap.size) #[] #[]]:=by simp[Act.eval]
   simp only[resolve,this];exact Va
  unfold tS at Dy;rw[dZ]at Dy;have hci:CallsIn F (n-1) P oc (As++ #[.func (.yield wA.heap.size) #[] #[]]++Bs) wB fun e w'=>∃x,e= .returned x/\lW base LC gl gB uO wB r m x w':=by
   rcases Dy with⟨f2,as2,h1,h2⟩|⟨_,_,h1,_⟩|⟨_,_,_,_,_,h1,_⟩
   ·cases h1;exact h2
   ·cases h1
   ·cases h1
  refine⟨wA.heap.size,[zI w.heap.size],wB,{target:= .fn (.func oc) Bs,args:=As++ #[.func (.yield wA.heap.size) #[] #[]]},wB,oc,_,wB,?_,ac5,fun f' _=>hF f',hinv,fun h=>(by rw[hd]at h;cases h),hci.mono fun e w3 he=>?_⟩
  ·rw[vQ];show _=Result.ok (wA.heap.size,[zI w.heap.size]) (wA.alloc (.loop L));rw[Vr,hL];simp only[Instr.enterLoop,Sem.run_bind,run_newObj,Result.andThen_ok,Sem.run_pure];rfl
  ·obtain⟨x,rfl,g3,uN,tv,NC,hv3,U',alg,ak_⟩:=he;have hk:=hK _ _ _ _ _ hc;have acF:∃e p q r st,m.ε[s.mem.ε.length]?=some (.loop e p q r st)/\st≠ .busy/\s'= {s with mem:=s.mem.back m}∧
     ex=(match st with| .ready=> .normal| .busy=> .normal| .done none=> .ret| .done (some i)=> .exit i):=by
    split at hx
    ·rename_i he;cases hx;exact⟨_,_,_,_,_,he,by simp,rfl,rfl⟩
    ·rename_i he;cases hx;exact⟨_,_,_,_,_,he,by simp,rfl,rfl⟩
    ·rename_i he;cases hx;exact⟨_,_,_,_,_,he,by simp,rfl,rfl⟩
    ·cases hx
   obtain⟨e,p,q,r',st,gM,vM,rfl,hex⟩:=acF;obtain⟨b,b1,b2,b3,L3,N3,b4,b5,b6,b7,b8,b9,AG,t_,CC⟩:=NC.blk _ _ gM;have kC:b=wA.heap.size:=by have:=tv.sub.2.1 s.mem.ε.length wA.heap.size (by simp[gB]);rw[this]at b1;exact(Option.some.inj b1).symm
   subst kC;have adb:(L3.state==LoopState.busy)=false:=by
    cases st with
    |ready=>rw[t_.1];rfl
    |busy=>exact absurd rfl vM
    |done j=>cases j<;>(rw[t_.1];rfl)
   let w4:World:=fO w3 wA.heap.size (.loop {L3 with state:= .exhausted});have Bp:(Instr.endLoop wA.heap.size).run P w3= .ok L3.pending w4:=by
    have h1:(getObj wA.heap.size).run P w3= .ok (.loop L3) w3:=by simp only[getObj,Sem.run,b4]
    have h2:∀y,(setObj wA.heap.size y).run P w3= .ok () (fO w3 wA.heap.size y):=fun y=>by simp only[setObj,Sem.run,b4];rfl
    simp only[Instr.endLoop,Instr.getLoop,Sem.run_bind,h1,Result.andThen_ok,Sem.run_pure,adb,jV,if_false,h2];rfl
   have jB:∀b',b'≠wA.heap.size->w4.heap[b']?=w3.heap[b']?:=fun b' φ=>by simp only[w4,fO];rw[J4 (Ne.symm φ)]
   have ale:(s.mem.back m).ε.length=s.mem.ε.length:=Kx (by have:=hk.len;simp at this;omega);have ab2:=QH hs.mem NC hk;have Vo:g.sub (g3.cut s.mem.ε.length):=by
    refine⟨fun b o y hy=>tv.sub.1 b o y hy,fun id b hb=>?_,fun t k y hy=>?_⟩
    ·simp only[Gh.cut];rw[if_pos (hlen id b hb)];exact tv.sub.2.1 _ _ (Iu.2.1 _ _ hb)
    ·simp only[Gh.cut];rw[if_pos (hs.mem.nO t k y hy)];exact tv.sub.2.2 _ _ _ hy
   have hm4:bc (g3.cut s.mem.ε.length) (qi s.mem.ε.length uN) LC (s.mem.back m) w4:=by
    refine ab2.bf (Gh.eS _) (fun _ h=>h) (fun _ _ h=>h) (fun id b hb=>⟨rfl,jB b ?_,fun _=>rfl⟩) (fun b o y hy=>?_)
    ·rintro rfl
     have h1:=(BR hb).1;rw[b2]at h1;cases h1;simp[qi,b2]at hb
    ·have φ:b≠wA.heap.size:=by rintro rfl;exact absurd ((b3 o).symm.trans hy) (by simp)
     rw[qC (jB b φ)];exact NC.im _ _ _ hy
   have pd:lW base LC gl g own wA .undef (s.mem.back m) undef w4:=by
    refine⟨g3.cut s.mem.ε.length,qi s.mem.ε.length uN,⟨Vo,?_,?_,?_,?_,fun b hb ho=>?_,fun b hb ho=>?_,fun b hb ho o=>?_⟩,hm4,.undef _,⟨fun b o hb=>?_,?_⟩,fun b d hb=>?_,hs.gl.mono Vo⟩
    ·have h1:=tv.size;have h2:wA.heap.size<=wB.heap.size:=by simp[wB]
     simp only[w4,fO,Array.size_setIfInBounds];omega
    ·exact tv.os.trans rfl
    ·exact tv.tape.trans rfl
    ·exact tv.output.trans rfl
    ·have φ:b≠wA.heap.size:=by omega
     have DT:eD uO b=none:=by simp only[eD,uO,gP,if_neg φ];exact ho
     have DO:b<wB.heap.size:=by simp[wB];omega
     rw[jB b φ,tv.bf b DO DT];exact um wA _ hb
    ·have φ:b≠wA.heap.size:=by omega
     have DT:eD uO b=none:=by simp only[eD,uO,gP,if_neg φ];exact ho
     have DO:b<wB.heap.size:=by simp[wB];omega
     exact WZ (tv.jI b DO DT)
    ·have φ:b≠wA.heap.size:=by omega
     have DT:eD uO b=none:=by simp only[eD,uO,gP,if_neg φ];exact ho
     have DO:b<wB.heap.size:=by simp[wB];omega
     exact tv.im b DO DT o
    ·have:=U'.ge b o (BR hb).1;simpa[w4,fO]using this
    ·simpa[w4,fO]using U'.base
    ·obtain⟨_,id,h⟩:=BR hb;cases h
   obtain⟨g',lb',aD,k1,k2⟩:=zq.after (dst:=none) rfl (FU zq pd);have uo:=hQ g' lb' aD _ w4 (Vm.trans k1) k2;refine⟨L3.pending,w4,Bp,?_⟩;cases st with
   |ready=>
    obtain⟨_,hp⟩:=t_
    rw[Option.isNone_iff_eq_none.1 hp];rw[hex]at uo;exact uo
   |busy=>exact absurd rfl vM
   |done j=>
    cases j with
    |none=>
     obtain⟨_,hp⟩:=t_
     cases DX:L3.pending with
     |none=>rw[DX]at hp;exact hp.elim
     |some c=>
      rw[DX]at hp
      cases c<;>first|exact hp.elim|skip
      rw[hex]at uo;exact wpIn_ret uo
    |some i=>
     obtain⟨_,hp⟩:=t_
     cases DX:L3.pending with
     |none=>rw[DX]at hp;exact hp.elim
     |some c=>
      rw[DX]at hp
      cases c<;>first|exact hp.elim|skip
      dsimp only at hp;subst hp;rw[hex]at uo;exact wpIn_exit uo
 ·cases hx
end
section
variable{F:Fence}{n:Nat}{P:Program}{bj:Nat->Bool}{N:Nat}{gl:Nat->AV}{base:Nat}{LC:eY}{cW:Nat}{ay:cx}
theorem Cc{P:Program}{b:Frame}{a:Act}{k:List Item}{cs:List Frame}{w:World}{c:Code}:
  step P (lone (b.atR a (.code (.scope c)::k)) cs w)= .next (lone (b.atR a (.code c:: .inScope c::k)) cs w):=
 step_lone_go (by simp[stepG,stepG.exec,Frame.atR])
theorem aj6{P:Program}{b:Frame}{a:Act}{k:List Item}{cs:List Frame}{w:World}{c:Code}:
  step P (lone (b.atR a (.inScope c::k)) cs w)= .next (lone (b.atR a k) cs w):=
 step_lone_go (by simp[stepG,stepG.exec,Frame.atR])
def noGoto(Q:Exit->Act->World->Prop):Exit->Act->World->Prop
 | .goto _,_,_=>False
 |e,a,w=>Q e a w
theorem akz{F:Fence}{n:Nat}{P:Program}{Q:Exit->Act->World->Prop}{a:Act}{w:World}{c:Code}(h:c.wpIn F n P (noGoto Q) a w):(Code.scope c).wpIn F n P Q a w:=by
 intro b k cs vQ hb hr;have h0:(lone (b.atR a (.code (.scope c)::k)) cs w).fenced P F:=fenced_calm hb hr rfl;obtain⟨e,a₁,w₁,hq,Bj⟩:=h b (.inScope c::k) cs vQ hb hr;cases e with
 |normal=>exact⟨.normal,a₁,w₁,hq,.head h0 Cc (StepsIn.trans Bj (.one (fenced_calm hb hr rfl) aj6))⟩
 |exit id=>
  have hx:exitTo id (.inScope c::k)=exitTo id k:=by simp[exitTo]
  exact⟨.exit id,a₁,w₁,hq,fun k' hk=> .head h0 Cc (Bj.1 k' (by rw[hx];exact hk)),
   fun iT hk=>let⟨k₁,h1,h2⟩:=Bj.2 iT (by rw[hx];exact hk);⟨k₁,h1,.head h0 Cc h2⟩⟩
 |goto l=>exact hq.elim
 |ret=>exact⟨_,a₁,w₁,hq,.of_steps (.one h0 Cc) Bj⟩
 |panic ch=>exact⟨_,a₁,w₁,hq,.of_steps (.one h0 Cc) Bj⟩
 |outgrown=>exact⟨_,a₁,w₁,hq,.of_steps (.one h0 Cc) Bj⟩
theorem Ln(hF:∀f,F.fn f)(hd:F.depth=none)(iR:nS F P base LC gl ay)(xk:Co P ay)(hK:KC ay)
  (Ua:∀c,LC N (ky P bj N false c) c) (m:Nat) (c:Code):∀(rf:Bool),(rf=true->F.round=none)->∀(g:Gh) (lb:LB) (own:OW) (s:St) (ex:Ex) (s':St) (a:Act) (w:World) (Q:Exit->Act->World->Prop),
  SR gl base N LC cW g lb own s a w->exec gl ay (fV m) (ky P bj N rf c) s=some (ex,s')→
  (∀g' lb' aD a' w',eE g own w g' aD w'->SR gl base N LC cW g' lb' aD s' a' w'->Q ex.AX a' w')->c.wpIn F n P Q a w:=by
 induction c with
 |skip=>
  intro rf kE g lb own s ex s' a w Q hs hx hQ
  cases hx;exact wpIn_skip (hQ _ _ _ _ _ (.refl _ _ _) hs)
 |label l=>
  intro rf kE g lb own s ex s' a w Q hs hx hQ
  cases hx;exact wpIn_label (hQ _ _ _ _ _ (.refl _ _ _) hs)
 |exit id=>
  intro rf kE g lb own s ex s' a w Q hs hx hQ
  cases hx;exact wpIn_exit (hQ _ _ _ _ _ (.refl _ _ _) hs)
 |ret=>
  intro rf kE g lb own s ex s' a w Q hs hx hQ
  cases hx;exact wpIn_ret (hQ _ _ _ _ _ (.refl _ _ _) hs)
 |region id ops draw=>
  intro rf kE g lb own s ex s' a w Q hs hx hQ
  exact ai2 hF hd iR hs hx hQ
 |seq x y VA xI=>
  intro rf kE g lb own s ex s' a w Q hs hx hQ
  simp only[ky,exec]at hx;refine wpIn_seq ?_;split at hx
  ·rename_i s1 h1;refine VA rf kE g lb own s .normal s1 a w _ hs h1 fun g1 vY uM a1 w1 k1 k2=>?_;exact xI rf kE g1 vY uM s1 ex s' a1 w1 Q k2 hx fun g2 Ev qh a2 w2 k3 k4=>hQ _ _ _ _ _ (k1.trans k3) k4
  ·rename_i φ;refine VA rf kE g lb own s ex s' a w _ hs hx fun g1 vY uM a1 w1 k1 k2=>?_;have:=hQ _ _ _ _ _ k1 k2;cases ex with
   |normal=>exact absurd hx (φ _)
   |exit i=>exact this
   |ret=>exact this
 |cond x b c gx ihc=>
  intro rf kE g lb own s ex s' a w Q hs hx hQ
  simp only[ky]at hx;split at hx
  ·rename_i x' gr;simp only[exec]at hx;split at hx
   ·rename_i t ht;have hv:=hs.ev _ _ gr;rw[ht]at hv;have hb:a.eval x= .bool t:=by generalize a.eval x=y at hv;cases hv;rfl
    refine wpIn_cond hb ?_;cases t with
    |true=>exact gx rf kE g lb own s ex s' a w Q hs hx hQ
    |false=>exact ihc rf kE g lb own s ex s' a w Q hs hx hQ
   ·cases hx
  ·cases hx
 |block id b ih=>
  intro rf kE g lb own s ex s' a w Q hs hx hQ
  simp only[ky,exec]at hx;refine wpIn_block ?_;split at hx
  ·rename_i i s1 h1;refine ih rf kE g lb own s (.exit i) s1 a w _ hs h1 fun g1 vY uM a1 w1 k1 k2=>?_;simp only[Ex.AX,Exit.inBlock];split at hx
   ·rename_i hi;rw[if_pos hi];cases hx;exact hQ _ _ _ _ _ k1 k2
   ·rename_i hi;rw[if_neg hi];cases hx;exact hQ _ _ _ _ _ k1 k2
  ·rename_i φ;refine ih rf kE g lb own s ex s' a w _ hs hx fun g1 vY uM a1 w1 k1 k2=>?_;have:=hQ _ _ _ _ _ k1 k2;cases ex with
   |normal=>exact this
   |exit i=>exact absurd hx (φ _ _)
   |ret=>exact this
 |loop b ih=>
  intro rf kE g lb own s ex s' a w Q hs hx hQ
  simp only[ky,exec]at hx;refine wpIn_loop_rounds m ?_;have key:∀(k:Nat) (g:Gh) (lb:LB) (own:OW) (s:St) (a:Act) (w:World),SR gl base N LC cW g lb own s a w->fV k (exec gl ay (fV m) (ky P bj N rf b)) s=some (ex,s')→
    (∀g' lb' aD a' w',eE g own w g' aD w'->SR gl base N LC cW g' lb' aD s' a' w'->Q ex.AX a' w')->Code.roundsIn F n P b Q k a w:=by
   intro k;induction k with
   |zero=>intro g lb own s a w _ hx _;simp[fV]at hx
   |succ k Ek=>
    intro g lb own s a w hs hx hQ
    simp only[fV]at hx;rw[roundsIn_succ];split at hx
    ·rename_i s1 h1;refine ih rf kE g lb own s .normal s1 a w _ hs h1 fun g1 vY uM a1 w1 k1 k2=>?_;exact Ek g1 vY uM s1 a1 w1 k2 hx fun g2 Ev qh a2 w2 k3 k4=>hQ _ _ _ _ _ (k1.trans k3) k4
    ·rename_i φ;refine ih rf kE g lb own s ex s' a w _ hs hx fun g1 vY uM a1 w1 k1 k2=>?_;have:=hQ _ _ _ _ _ k1 k2;cases ex with
     |normal=>exact absurd hx (φ _)
     |exit i=>exact this
     |ret=>exact this
  exact key m g lb own s a w hs hx hQ
 |rangeFunc f ps fQ body dM gx=>
  intro rf kE g lb own s ex s' a w Q hs hx hQ
  simp only[ky]at hx;split at hx
  ·rename_i f' om;split at hx
   ·rename_i hc;simp only[ej,dO,decide_eq_true_eq]at hc;exact ai' hF hd (kE hc.1) iR xk hK hs om (Ua fQ) (Ua body) hc.2 hx hQ
   ·cases hx
  ·cases hx
 |scope b ih=>
  intro rf kE g lb own s ex s' a w Q hs hx hQ
  simp only[ky]at hx;refine akz (ih rf kE g lb own s ex s' a w _ hs hx fun g1 vY uM a1 w1 k1 k2=>?_);have:=hQ _ _ _ _ _ k1 k2;cases ex<;>exact this
 |goto l=>intro rf kE g lb own s ex s' a w Q hs hx hQ;cases hx
 |refuse why=>intro rf kE g lb own s ex s' a w Q hs hx hQ;cases hx
end
section
variable(P:Program)
def KX:ResultVar->Option RV
 | .tmp t=>some (.tmp t)
 | .cell a t=>match wq P t,kY P t with
  |some ag,some n=>some (.cell a ag n)
  |_,_=>none
def yC:List ResultVar->Option (List RV)
 |[]=>some []
 |r::l=>match KX P r,yC l with
  |some a,some m=>some (a::m)
  |_,_=>none
end
section
variable{F:Fence}{n:Nat}{P:Program}{bj:Nat->Bool}{N:Nat}{gl:Nat->AV}{base:Nat}{LC:eY}{cW:Nat}{ay:cx}
variable{g:Gh}{lb:LB}{own:OW}{s:St}{a:Act}{w:World}
theorem ai6(hs:SR gl base N LC cW g lb own s a w){rv:ResultVar}{r:RV}(hc:KX P rv=some r){v:AV}(hv:r.get s=some v):
  ∃x,((match rv with| .tmp t=>pure (a.tmps.getD t undef)| .cell p t=>do loadVar t (<-asAddr (a.tmps.getD p undef)):Sem Value).run P w= .ok x w)/\VR g lb v x:=by
 cases rv with
 |tmp t=>
  cases hc
  simp only[RV.get,bh]at hv;subst hv;exact⟨_,rfl,hs.env t⟩
 |cell p t=>
  simp only[KX]at hc
  split at hc
  ·rename_i ag m lM hm;cases hc;simp only[RV.get]at hv;split at hv
   ·rename_i cs oz;obtain⟨b,off,vs,e1,e2,e3,e4,e5,e6⟩:=XC hs.mem hs.loc (hs.env p) oz;obtain⟨s1,s2,s3⟩:=pD (P:=P) (w:=w) hm;have Dp:=JQ (w:=w) lM;obtain⟨k1,k2⟩:=Kr (a:=vs.toArray) (g:=g) (lb:=lb) ⟨by simp;omega,fun i hi ae=>e5 i hi (by simpa using ae)⟩ (by simpa using e6) hv;have nC:∀j v,vs[j]?=some v->w.cell? ((⟨b,off,none⟩:Addr).add j)=some v:=fun j v hj=>by rw[Addr.add_mid];exact e4 j v hj
    cases ag with
    |true=>
     refine⟨_,?_,k1 rfl⟩
     have Bw:=run_loadCells_list (P:=P) w ⟨b,off,none⟩ vs nC;simp only[e1,asAddr,Sem.run_bind,Sem.run_pure,Result.andThen_ok,loadVar,Dp,if_true,s1];rw[<-e2];simp only[Bw,Result.andThen_ok]
    |false=>
     obtain⟨z,hz,xE⟩:=k2 rfl
     have BE:vs=[z]:=by simpa using hz
     subst BE;have h0:w.cell? ⟨b,off,none⟩=some z:=by simpa using e4 0 z (by simp)
     refine⟨z,?_,xE⟩;simp only[e1,asAddr,Sem.run_bind,Sem.run_pure,Result.andThen_ok,loadVar,Dp,jV,if_false,run_load,h0]
   ·cases hv
  ·cases hc
theorem ai7(hs:SR gl base N LC cW g lb own s a w):∀(EZ:List ResultVar) (rs:List RV) (l:List AV),yC P EZ=some rs->cK s rs=some l→
  ∃xs,(EZ.mapM (fun rv=>(match rv with| .tmp t=>pure (a.tmps.getD t undef)| .cell p t=>do loadVar t (<-asAddr (a.tmps.getD p undef)):Sem Value))).run P w= .ok xs w/\PW (VR g lb) l xs:=by
 intro EZ;induction EZ with
 |nil=>
  intro rs l h1 h2
  cases h1;cases h2;exact⟨[],rfl,PW.nil⟩
 |cons rv EZ ih=>
  intro rs l h1 h2
  simp only[yC]at h1;split at h1
  ·rename_i r m k1 k2;cases h1;simp only[cK]at h2;split at h2
   ·rename_i v hv;simp only[bD]at h2;obtain⟨l',h2,rfl⟩:=h2;obtain⟨x,q1,q2⟩:=ai6 hs k1 hv;obtain⟨xs,q3,q4⟩:=ih m l' k2 h2;refine⟨x::xs,?_,PW.cons q2 q4⟩;simp only[List.mapM_cons,Sem.run_bind,q1,Result.andThen_ok,q3,Sem.run_pure]
   ·cases h2
  ·cases h1
theorem ai_(hs:SR gl base N LC cW g lb own s a w){fn:Func}{rs:List RV}(hc:yC P fn.results.toList=some rs){l:List AV}(hl:cK s rs=some l):
  ∃x,(results fn a.tmps).run P w= .ok x w/\VR g lb (cL l) x:=by
 obtain⟨xs,h1,h2⟩:=ai7 hs _ _ _ hc hl;have hr:(results fn a.tmps).run P w= .ok (if h:xs.toArray.size=1 then xs.toArray[0]else .tuple xs.toArray) w:=by
  unfold results;rw[Array.mapM_eq_mapM_toList];simp only[Sem.run_bind,map_eq_pure_bind]
  erw [h1]
  rfl
 refine⟨_,hr,?_⟩
 match l,xs,h2 with
 |[],[],h2=>exact .aQ _ [] _ rfl (fun i hi=>by simp at hi)
 |[v],[x],h2=>exact h2.2 0 (by simp) (by simp)
 |v::v'::l,x::x'::xs,h2=>
  have:¬(x::x'::xs).toArray.size=1:=by simp
  rw[dif_neg this];exact .aQ _ _ _ (by simpa using h2.1.symm) (fun i hi ae=>by have:=h2.2 i hi (by simpa using ae);simpa using this)
 |[],_::_,h2=>exact absurd h2.1 (by simp)
 |[_],[],h2=>exact absurd h2.1 (by simp)
 |[_],_::_::_,h2=>exact absurd h2.1 (by simp)
 |_::_::_,[],h2=>exact absurd h2.1 (by simp)
 |_::_::_,[_],h2=>exact absurd h2.1 (by simp)
theorem akf{g0:Gh}{Ji:OW}{w0:World}(he:w0.heap.size<=cW){fn:Func}{T:Array Value}{R:Ending->World->Prop}:∀(ms:List Nat) (w:World),ms.Nodup->(∀r∈ms,cW<=r/\r<w.heap.size/\own r=none/\w.heap[r]?=some (.deferred (some [])))->eE g0 Ji w0 g own w→
   SR gl base N LC cW g lb own s {tmps:=T,defers:=ms.map zI} w→
   (∀w',eE g0 Ji w0 g own w'->SR gl base N LC cW g lb own s {tmps:=T,defers:=[]} w'->LeavesInM F n P fn T R [] .returning w')->LeavesInM F n P fn T R (ms.map zI) .returning w:=by
 intro ms;induction ms with
 |nil=>intro w _ _ h1 h2 hK;exact hK w h1 h2
 |cons r ms ih=>
  intro w zl mU h1 h2 hK
  obtain⟨k1,k2,k3,k4⟩:=mU r (by simp);obtain⟨U8,zl⟩:=yk.1 zl;have jB:∀b',b'≠r->(fO w r (.deferred none)).heap[b']?=w.heap[b']?:=fun b' φ=>by simp only[fO];rw[J4 (Ne.symm φ)]
  have aL:(fO w r (.deferred none)).heap.size=w.heap.size:=by simp[fO]
  refine⟨by simp,.inl ⟨r,fO w r (.deferred none),rfl,?_,ih _ zl (fun r' iT=>?_) ?_ ?_ hK⟩⟩
  ·have q1:(getObj r).run P w= .ok (.deferred (some [])) w:=by simp only[getObj,Sem.run,k4]
   have q2:∀y,(setObj r y).run P w= .ok () (fO w r y):=fun y=>by simp only[setObj,Sem.run,k4];rfl
   simp only[Instr.takeDeferred,Sem.run_bind,q1,Result.andThen_ok,q2,Sem.run_pure]
  ·obtain⟨j1,j2,j3,j4⟩:=mU r' (yj _ iT);exact⟨j1,by rw[aL];exact j2,j3,by rw[jB r' (by rintro rfl;exact U8 iT)];exact j4⟩
  ·exact⟨h1.sub,by rw[aL];exact h1.size,h1.os,h1.tape,h1.output,fun b hb ho=>by rw[jB b (by omega)];exact h1.bf b hb ho,h1.jI,h1.im⟩
  ·have gG:∀b o,own b=some o->b≠r:=fun b o hb=>by rintro rfl;rw[k3]at hb;cases hb
   refine⟨h2.env,h2.gl,h2.size,?_,h2.mem.bf (Gh.eS _) (fun _ h=>h) (fun _ _ h=>h) (fun id b hb=>⟨rfl,jB b (gG b _ hb),fun _=>rfl⟩) (fun b o y hy=>?_),
    h2.loc.bf (Gh.eS _) (fun d b hb=>⟨rfl,jB b (gG b _ hb),fun _=>rfl⟩),⟨fun b o hb=>by rw[aL];exact h2.own.ge b o hb,by rw[aL];exact h2.own.base⟩⟩
   ·refine⟨by rw[aL];exact h2.defers.1,ms,zl,rfl,fun r' iT=>?_⟩;obtain⟨j1,j2,j3,j4⟩:=mU r' (yj _ iT);exact⟨j1,by rw[aL];exact j2,j3,by rw[jB r' (by rintro rfl;exact U8 iT)];exact j4⟩
   ·have φ:b≠r:=by
     rintro rfl
     have:=h2.mem.im _ _ _ hy;simp[sN,k4]at this
    rw[qC (jB b φ)];exact h2.mem.im _ _ _ hy
end
def Gh.fr(g:Gh)(own:OW)(w:World)(n:Nat):Gh:= {
 im b o:=match own b with
  |some (.m id)=>if n<=id then w.cell? ⟨b,o,none⟩else g.im b o
  |_=>g.im b o
 mb:=(g.cut n).mb
 rows:=(g.cut n).rows}
theorem aby{g:Gh}{own:OW}{LC:eY}{mem:Mem}{w:World}(hm:bc g own LC mem w)(n:Nat)(b o:Nat)(x:Value)(h:(g.fr own w n).im b o=some x):w.cell? ⟨b,o,none⟩=some x:=by
 simp only[Gh.fr]at h;split at h
 ·split at h
  ·exact h
  ·exact hm.im _ _ _ h
 ·exact hm.im _ _ _ h
theorem yM{g:Gh}{own:OW}{LC:eY}{mem:Mem}{w:World}(hm:bc g own LC mem w)(n:Nat):(g.cut n).sub (g.fr own w n):=by
 refine⟨fun b o x hx=>?_,fun _ _ h=>h,fun _ _ _ h=>h⟩;have hx:g.im b o=some x:=hx;simp only[Gh.fr];split
 ·split
  ·exact hm.im _ _ _ hx
  ·exact hx
 ·exact hx
theorem aan{n:Nat}{hp:Nat->Nat->AV}{hs:Nat->Nat->Nat->Nat->AV}(h1:∀id off,(hp id off).cells=[hp id off])(h2:∀kd id off m,(hs kd id off m).cells=[hs kd id off m])(v:AV):
  (fK n hp hs v).cells=v.cells.map (fK n hp hs):=by
 cases v with
 |μ id off=>
  by_cases h:id<n
  ·simp[fK,AV.cells,h]
  ·have e:fK n hp hs (.μ id off)=hp id off:=by simp[fK,h]
   rw[e,h1,<-e];rfl
 |sl kd id off m cap=>
  by_cases h:id<n
  ·simp[fK,AV.cells,h]
  ·have e:fK n hp hs (.sl kd id off m cap)=hs kd id off m:=by simp[fK,h]
   rw[e,h2,<-e];rfl
 |fn f a b=>simp only[fK,AV.cells,az,aJ];by_cases h:Fn.below n f=true<;>simp[h]
 |map id=>simp only[fK,AV.cells,az,aJ];by_cases h:id<n<;>simp[h]
 |_=>simp[fK,AV.cells,qF]
section
variable{g:Gh}{own:OW}{LC:eY}{mem:Mem}{w:World}
theorem QL(hm:bc g own LC mem w){id b n:Nat}{l:List AV}(hb:g.mb id=some b)(hl:mem.ε[id]?=some (.cells l))(hn:¬id<n):
  ∃a:Array Value,l.length<=a.size/\(∀i (h:i<a.size),(g.fr own w n).im b i=some a[i]/\a[i].oneCell'=true)/\∀i (h:i<l.length) (h':i<a.size),VR g bV l[i] a[i]:=by
 obtain⟨b',k1,k2,k3,a,e,k4,k5,k6,k7⟩:=hm.blk id _ hl;rw[hb]at k1;cases k1;refine⟨a,k5,fun i h=>⟨?_,k7 i h⟩,fun i h h'=>k6 i h h'⟩;simp only[Gh.fr,k2];rw[if_pos (by omega)];simp[sN,k4,h]
theorem Gl(bs:List θ)(n k:Nat)(v:AV):(aO bs n k v).cells=v.cells.map (aO bs n k):=by
 cases k with
 |zero=>exact FX n false v
 |succ k=>
  refine aan (fun id off=>?_) (fun kd id off m=>?_) v
  ·split<;>rfl
  ·(repeat' split)<;>rfl
theorem abE(hm:bc g own LC mem w)(n:Nat):∀(k:Nat) {lb lb':LB} {v:AV} {x:Value},VR g lb v x->VR (g.fr own w n) lb' (aO mem.ε n k v) x:=by
 intro k;induction k with
 |zero=>intro lb lb' v x h;exact(h.exp n false).sub (yM hm n)
 |succ k Ek=>
  intro lb lb' v x h
  induction h generalizing lb' with
  |undef=>exact .undef _
  |cY _ x h=>exact .cY _ x h
  |int _ k n=>exact .int _ k n
  |bool _ b=>exact .bool _ b
  |str _ b s h=>exact .str _ b s h
  |iW=>exact .iW _
  |aj _ d v off b h=>exact .cY _ _ rfl
  |μ _ id off b h=>
   simp only[aO,fK]
   split
   ·rename_i hi;exact .μ _ id off b (by simp only[Gh.fr,Gh.cut,hi,if_true];exact h)
   ·rename_i hi;split
    ·rename_i l hl;obtain⟨a,h1,h2,h3⟩:=QL hm h hl hi;refine .ref _ _ b off (fun i=>a.getD (off+i) undef) (fun i ae=>?_) (fun i ae=>?_)
     ·simp at ae;have ψ:off+i<a.size:=by omega
      have:=h2 (off+i) ψ;simpa[oK,ψ]using this
     ·simp at ae;have ψ:off+i<a.size:=by omega
      have:=Ek (lb':=bV) (h3 (off+i) (by omega) ψ);simpa[oK,ψ]using this
    ·exact .cY _ _ rfl
  |ref _ l b o xs cC _ ih=>
   simp only[aO,fK,qF]
   refine .ref _ _ b o xs (fun i hi=>?_) (fun i hi=>?_)
   ·have:=cC i (by simpa using hi);exact⟨(yM hm n).1 _ _ _ this.1,this.2⟩
   ·simp only[ja];exact ih i (by simpa using hi)
  |iU=>
   simp only[aO,fK,qF,aJ,ρ.exp]
   exact .iU _
  |sl _ kd id off m cap gq b hc eG h=>
   simp only[aO,fK]
   split
   ·rename_i hi;exact .sl _ kd id off m cap gq b hc eG (by simp only[Gh.fr,Gh.cut,hi,if_true];exact h)
   ·rename_i hi;split
    ·rename_i l hl;obtain⟨a,h1,h2,h3⟩:=QL hm h hl hi;split
     ·rename_i tc;split
      ·rename_i o9;subst o9;have acm:off+m<=l.length:=by have e0:ami 0 1=1:=rfl;rw[e0]at tc;omega
       split
       ·rename_i sa;simp only[dO]at sa;have uk:∀v,v∈(l.drop off).take m->(aO mem.ε n k v).cells=[aO mem.ε n k v]:=fun v hv=>by rw[Gl];have:=sa v hv;cases v<;>simp_all [AV.cells,AV.one]
        refine .list _ .any _ b off 1 m gq (fun i _=>a.getD (off+i) undef) (by simp;omega) (by omega) trivial (fun e he=>?_) (fun i ae j hj=>?_) (fun i ae j hj=>?_)
        ·obtain⟨v,hv,rfl⟩:=eP.1 he;rw[uk v hv];rfl
        ·obtain rfl:j=0:=by omega
         have ψ:off+i<a.size:=by omega
         have:=h2 (off+i) ψ;simpa[oK,ψ]using this
        ·simp at ae;have ψ:off+i<a.size:=by omega
         have Γ:l[off+i]'(by omega)∈(l.drop off).take m:=by rw[pG];exact⟨i,by simp;omega,by simp⟩
         have e1:((((l.drop off).take m).map (aO mem.ε n k))[i]'(by simp;omega))=aO mem.ε n k (l[off+i]'(by omega)):=by simp
         have e2:=uk _ Γ;have Nk:j=0:=by have:=hj;simp only[e1,e2,cD,eO]at this;omega
         subst Nk;have:=Ek (lb':=bV) (h3 (off+i) (by omega) ψ);simp only[e1,e2,kJ];simpa[oK,ψ]using this
       ·exact .cY _ _ rfl
      ·rename_i o9;have jO:ami kd 1=kd:=amj (by omega);rw[jO]at tc;have hbound:∀i j,i<m->j<kd->off+(i*kd+j)<l.length:=by intro i j hi hj;have:=Ej hi hj;omega
       refine .list _ .any _ b off kd m gq (fun i j=>a.getD (off+(i*kd+j)) undef) (AL _ _ _) (by omega) trivial (fun e he=>?_) (fun i ae j hj=>?_) (fun i ae j hj=>?_)
       ·obtain⟨i,jo,rfl⟩:=pG.1 he;rw[FZ];simp only[AV.cells,lD,k_,cg];rw[AL]at jo;have h5:(i+1)*kd<=m*kd:=mD _ jo;rw[kK]at h5;omega
       ·have ψ:off+(i*kd+j)<a.size:=ku (hbound i j ae hj) h1;have:=h2 _ ψ;simpa[oK,ψ]using this
       ·have jo:i<m:=by rw[AL]at ae;exact ae
        have e0:=FZ kd m ((l.drop off).map (aO mem.ε n k)) i ae;have uv:j<kd:=by have:=hj;rw[e0]at this;simp only[AV.cells,lD,k_,cg]at this;omega
        have ψ:off+(i*kd+j)<a.size:=ku (hbound i j jo uv) h1;have:=Ek (lb':=bV) (h3 _ (hbound i j jo uv) ψ);have e1:(((chunk kd m ((l.drop off).map (aO mem.ε n k)))[i]'ae).cells[j]'hj)=aO mem.ε n k (l[off+(i*kd+j)]'(hbound i j jo uv)):=by simp only[e0,AV.cells,Cs,yg,ja]
        rw[e1];simpa[oK,ψ]using this
     ·exact .cY _ _ rfl
    ·exact .cY _ _ rfl
  |iw _ c a cap hc=>
   have he:aO mem.ε n (k+1) (.list c [])= .list (c.exp n false) []:=by simp only[aO,fK,qF,aJ]
   rw[he];refine .iw _ _ a cap ?_;rcases hc with rfl|⟨rfl,h⟩<;>exact .inl rfl
  |list _ c l b o sz m cap xs lP dQ hc aL cC _ ih=>
   have he:aO mem.ε n (k+1) (.list c l)= .list (c.exp n false) (l.map (aO mem.ε n (k+1))):=by simp only[aO,fK,qF]
   rw[he];have Dz:∀v,(aO mem.ε n (k+1) v).cells=v.cells.map (aO mem.ε n (k+1)):=Gl _ _ _;refine .list _ _ _ b o sz m cap xs (by simpa using lP) dQ (Sb (yM hm n) (Sa hc)) ?_ (fun i hi j hj=>?_) ?_
   ·intro e he;obtain⟨e',qJ,rfl⟩:=eP.1 he;rw[Dz,cg];exact aL e' qJ
   ·have:=cC i hi j hj;exact⟨(yM hm n).1 _ _ _ this.1,this.2⟩
   ·intro i hi j hj;have ae:i<l.length:=by simpa using hi
    have dL:j<l[i].cells.length:=by simpa[Dz]using hj
    have:=ih i ae j dL (lb':=bV);simpa[Dz]using this
  |agg _ l a hs h1 _ ih=>
   simp only[aO,fK,qF]
   refine .agg _ _ a (by simpa using hs) h1 fun i hi ae=>?_;simp only[ja];exact ih i (by simpa using hi) ae
  |aQ _ l a hs _ ih=>
   simp only[aO,fK,qF]
   refine .aQ _ _ a (by simpa using hs) fun i hi ae=>?_;simp only[ja];exact ih i (by simpa using hi) ae
  |fn _ f f' l m' a b hs ht hy _ _ qZ pg=>
   simp only[aO,fK,qF]
   split
   ·rename_i hf;refine .fn _ f f' _ _ a b (by simpa using hs) (by simpa using ht) ?_ (fun i hi ae=>?_) (fun i hi ae=>?_)
    ·cases f<;>cases f'<;>first|exact hy|exact hy.elim|skip
     simp only[Fn.below,decide_eq_true_eq]at hf;simp only[sK,Gh.fr,Gh.cut,hf,if_true];exact hy
    ·simp only[ja];exact qZ i (by simpa using hi) ae
    ·simp only[ja];exact pg i (by simpa using hi) ae
   ·exact .cY _ _ rfl
  |fX=>exact .fX _
  |iface _ t v x _ ih=>exact .iface _ t _ x ih
  |gy=>exact .gy _
  |map _ id b h=>
   simp only[aO,fK]
   split
   ·rename_i hi;exact .map _ id b (by simp only[Gh.fr,Gh.cut,hi,if_true];exact h)
   ·exact .cY _ _ rfl
  |gZ=>exact .gZ _
theorem abz{n:Nat}{m':Mem}(hm:bc g own LC mem w)(h:bc (g.cut n) (qi n own) LC m' w):bc (g.fr own w n) (qi n own) LC m' w:=by
 refine h.bf (yM hm n) (fun _ h=>h) (fun _ _ h=>h) (fun id b hb=>⟨rfl,rfl,fun o=>?_⟩) (fun b o x hx=>aby hm n b o x hx);have h1:=(BR hb).1;have h2:id<n:=by
  simp only[qi,h1]at hb;split at hb
  ·assumption
  ·cases hb
 simp only[Gh.fr,h1];rw[if_neg (by omega)];rfl
end
def P_(F:Fence)(n:Nat)(P:Program)(run:Result Next)(w:World)(R:Value->World->Prop):Prop:=
 (∃(f:FuncId) (as:Array Value),run= .ok (.enter f as) w/\CallsIn F n P f as w fun e w'=>∃x,e= .returned x/\R x w')∨
 (∃x w',run= .ok (.value x) w'/\R x w')∨
 (∃(l:Nat) (f:FuncId) (tmps:Array Value) (assign body:Code),run= .ok (.round l f tmps assign body) w∧
  RoundIn F n P l f tmps assign body w fun e w'=>∃x,e= .returned x/\R x w')
def mF(F:Fence)(P:Program)(base:Nat)(LC:eY)(gl:Nat->AV)(f:FuncId)(p:Prim):Prop:=
 ∀(n:Nat) (g:Gh) (own:OW) (mem:Mem) (w:World) (args:List AV) (r:AV) (m':Mem) (bK:Array Value),
  bc g own LC mem w->bT base own w->ni g gl->PW (VR g bV) args bK.toList->p args mem=some (r,m')→
  P_ F n P ((callFunc f bK).run P w) w (lW base LC gl g own w r m')
def mA(P:Program):eY:=fun N a c=>∃bj,a=ky P bj N false c
structure aH (P:Program) (f:FuncId) (g:AF):Prop where
 ex:∃fn c bj,P.funcs[f]?=some fn/\fn.body=some c/\(fn.name== "runtime.NumGoroutine")=false/\g.code=ky P bj fn.ntmps true c/\yC P fn.results.toList=some g.results
structure Fk (F:Fence) (P:Program) (base:Nat) (C:iL):Prop where
 fs:∀f g,C.fs f=some g->aH P f g
 alts:∀f g,C.alts f=some g->aH P f g
 gQ:∀f p,C.gQ f=some p->mF F P base (mA P) C.gl f p
 EO:∀f p,C.gQ f=some p->∀args m r m',p args m=some (r,m')->KM m m'
 Pm:∀f p,C.gQ f=some p->(∃fn,P.funcs[f]?=some fn/\fn.body.isNone=false/\(fn.name== "runtime.NumGoroutine")=false)∨
  ∀first cap l mem,p ((first++[.fn (.yield l) [] []]++cap).map (exp mem.ε.length (C.bf f))) mem=none
section
variable{F:Fence}{n:Nat}{P:Program}{bj:Nat->Bool}{N:Nat}{gl:Nat->AV}{base:Nat}{LC:eY}{cW:Nat}{ay:cx}
variable{g:Gh}{lb:LB}{own:OW}{s:St}{a:Act}{w:World}
theorem Ls{C:iL}(hC:Fk F P base C):∀k,Co P (cv C k):=by
 intro k;cases k with
 |zero=>intro f first cap l mem r h;simp[cv]at h
 |succ k=>
  intro f first cap l mem r h
  simp only[cv,body]at h;split at h
  ·rename_i p hp;rcases hC.Pm f p hp with h1|h1
   ·exact h1
   ·rw[h1]at h;cases h
  ·split at h
   ·rename_i g hg;obtain⟨fn,c,bj,h1,h2,h3,h4,h5⟩:=(hC.fs f g hg).ex;exact⟨fn,h1,by simp[h2],h3⟩
   ·cases h
theorem wa{own:OW}{b id:Nat}(h:own b=some (.m id)):eD own b=some (.m id):=by simp[eD,h]
theorem W0{own:OW}{b:Nat}(h:own b=none):eD own b=none:=by simp[eD,h]
theorem bc.eD{mem:Mem}(h:bc g own LC mem w):bc g (eD own) LC mem w:=
 h.bf g.eS (fun _ h=>h) (fun _ _ h=>h) (fun id b hb=>⟨by rw[wa hb,hb],rfl,fun _=>rfl⟩) h.im
theorem bc.Fe{mem:Mem}(h:bc g own LC mem w)(t:List Nat):bc g own LC {ε:=mem.ε,η:=t} w:=⟨h.jx,h.nO,h.blk,h.im⟩
theorem bT.eD(h:bT base own w):bT base (eD own) w:=⟨fun b o hb=>h.ge b o (uP hb).1,h.base⟩
theorem abK(args:Array Value)(k t:Nat):(args++amn k undef).getD t undef=args.getD t undef:=by
 simp only[oK,Array.getElem?_append];split
 ·rfl
 ·rename_i h;rw[amm (xs:=args) (by omega)];by_cases h2:t-args.size<k
  ·simp[h2]
  ·simp[h2]
theorem abM(l:List AV)(t:Nat):aK l t=(l[t]?).getD .undef:=by
 induction l generalizing t with
 |nil=>simp[aK]
 |cons a l ih=>cases t with
  |zero=>rfl
  |succ t=>simp[aK,ih]
theorem aa9{args:List AV}{bK:Array Value}(h:PW (VR g lb) args bK.toList)(k t:Nat):VR g lb (aK args t) ((bK++amn k undef).getD t undef):=by
 rw[abK,abM,oK];rcases da t args.length with ψ|dD
 ·have eQ:t<bK.size:=by have:=h.1;simp at this;omega
  have:=h.2 t ψ (by simpa using eQ);simpa[ψ,eQ]using this
 ·have za:bK.size<=t:=by have:=h.1;simp at this;omega
  rw[h_ dD,amm za];exact .undef _
theorem Tf(hF:∀f,F.fn f)(hd:F.depth=none)(vQ:F.round=none)(iR:nS F P base (mA P) gl ay)(xk:Co P ay)(hK:KC ay){m:Nat}
  {f:FuncId} {fn:Func} {c:Code} (MX:P.funcs[f]?=some fn) (MY:fn.body=some c) {gf:AF} (hf4:gf.code=ky P bj fn.ntmps true c) (hf5:yC P fn.results.toList=some gf.results)
  {mem:Mem} (hm:bc g own (mA P) mem w) (ho:bT base own w) (eH:ni g gl) {args:List AV} {bK:Array Value} (iG:PW (VR g bV) args bK.toList) {bf:Bool} {r:AV} {m':Mem}
  (hx:fin gf bf mem (exec gl ay (fV m) gf.code {env:=args,loc:=[],mem:= {ε:=mem.ε,η:=[]}})=some (r,m')):
  CallsIn F n P f bK w fun e w'=>∃x,e= .returned x/\lW base (mA P) gl g own w r m' x w':=by
 generalize hex:exec gl ay (fV m) gf.code _=y at hx;cases y with
 |none=>simp[fin]at hx
 |some y=>
 obtain⟨ex,s'⟩:=y
 have hKM:=yK hK (FB m) _ _ _ _ hex;rw[hf4]at hex;have kQ:SR gl base fn.ntmps (mA P) w.heap.size g bV (eD own) {env:=args,loc:=[],mem:= {ε:=mem.ε,η:=[]}}
   {tmps:=bK++amn (fn.ntmps-bK.size) undef,defers:=[]} w:=by
  refine⟨fun t=>aa9 iG _ t,eH,by simp;omega,Marks.nil (bS _),hm.eD.Fe _,⟨fun d v l h=>(by cases h),fun d v s p h=>(by cases h),fun d v b h=>(by cases h)⟩,ho.eD⟩
 refine callsIn_of_wp_marks MX MY (hF f) ?_ vQ;refine Ln hF hd iR xk hK (fun c=>⟨bj,rfl⟩) m c true (fun _=>vQ) g bV (eD own) _ ex s' _ w _ kQ hex fun g' lb' aD a' w' h1 h2=>?_;have nE:(match cK s' gf.results with
   |some l=>if bf then some (exp s'.mem.ε.length true (cL l),({ε:=s'.mem.ε,η:=mem.η++s'.mem.η}:Mem))
    else some (aO s'.mem.ε mem.ε.length 8 (cL l),mem.back s'.mem)
   |none=>none)=some (r,m')->LeavesInM F n P fn a'.tmps (fun e w'=>∃x,e=Ending.returned x/\lW base (mA P) gl g own w r m' x w') a'.defers .returning w':=by
  intro hx;obtain⟨h0,ms,zl,UC,mU⟩:=h2.defers;have l9:SR gl base fn.ntmps (mA P) w.heap.size g' lb' aD s' {tmps:=a'.tmps,defers:=ms.map zI} w':=by rw[<-UC];exact h2
  rw[UC];refine akf (bS _) ms w' zl mU h1 l9 fun w2 k1 k2=>?_;split at hx
  ·rename_i l hl;obtain⟨x,q1,q2⟩:=ai_ k2 hf5 hl;refine⟨x,q1,x,rfl,?_⟩;split at hx
   ·simp only[bh,aA]at hx;obtain⟨rfl,rfl⟩:=hx;refine⟨g',eD aD,⟨k1.sub,k1.size,k1.os,k1.tape,k1.output,k1.bf,fun b hb h=>W0 (k1.jI b hb h),k1.im⟩,k2.mem.eD.Fe _,(q2.exp _ _).sub (g'.F0 _),k2.own.eD,fun b d hb=>?_,k2.gl⟩;obtain⟨_,id,h⟩:=uP hb;cases h
   ·simp only[bh,aA]at hx;obtain⟨rfl,rfl⟩:=hx;have hb:=QH hm (extra:=[]) k2.mem (by rw[List.append_nil];exact hKM);have dh:g.sub (g'.cut mem.ε.length):=by
     refine⟨fun b o y hy=>k1.sub.1 b o y hy,fun id b hb=>?_,fun t k y hy=>?_⟩
     ·simp only[Gh.cut];rw[if_pos (hm.jx id b hb)];exact k1.sub.2.1 _ _ hb
     ·simp only[Gh.cut];rw[if_pos (hm.nO t k y hy)];exact k1.sub.2.2 _ _ _ hy
    refine⟨g'.fr aD w2 mem.ε.length,qi mem.ε.length aD,⟨Gh.Cf dh (yM k2.mem _),k1.size,k1.os,k1.tape,k1.output,k1.bf,fun b hb h=>WZ (k1.jI b hb h),fun b hb h o=>?_⟩,abz k2.mem hb,abE k2.mem _ _ q2,
     ⟨fun b o hb=>k2.own.ge b o (BR hb).1,k2.own.base⟩,fun b d hb=>?_,eH.mono (Gh.Cf dh (yM k2.mem _))⟩
    ·have hu:=k1.jI b hb h;have:(g'.fr aD w2 mem.ε.length).im b o=g'.im b o:=by simp only[Gh.fr,hu]
     rw[this];exact k1.im b hb h o
    obtain⟨_,id,h⟩:=BR hb;cases h
  ·cases hx
 cases ex with
 |exit i=>simp[fin]at hx
 |normal=>exact nE hx
 |ret=>exact nE hx
end
section
variable{F:Fence}{n:Nat}{P:Program}{bj:Nat->Bool}{N:Nat}{gl:Nat->AV}{base:Nat}{LC:eY}{cW:Nat}{ay:cx}
variable{g:Gh}{lb:LB}{own:OW}{s:St}{a:Act}{w:World}
theorem OQ{m:Mem}{l:Nat}{st:LS}(h:m.ls l=some st):∃e p q c,m.ε[l]?=some (.loop e p q c st):=by
 unfold Mem.ls at h;split at h
 ·rename_i e p q c aV he;cases h;exact⟨e,p,q,c,he⟩
 ·cases h
theorem XY(hs:SR gl base N LC cW g lb own s a w){l b:Nat}(hb:g.mb l=some b){nP:LS}(ov:s.mem.ls l=some nP){st:LS}{L L':Loop}(hL:w.heap[b]?=some (.loop L))
  (h1:L'.tmps=L.tmps) (h2:L'.params=L.params) (h3:L'.assign=L.assign) (h4:L'.body=L.body) (Ω:Qb st L'):
  ∃g' lb' aD,eE g own w g' aD (fO w b (.loop L'))/\SR gl base N LC cW g' lb' aD {s with mem:=s.mem.i_ l st} a (fO w b (.loop L')):=by
 obtain⟨e,p,q,c,gM⟩:=OQ ov;obtain⟨b',b1,b2,b3,L2,N2,b4,b5,b6,b7,b8,b9,AG,t_,CC⟩:=hs.mem.blk l _ gM;rw[hb]at b1;cases b1;rw[hL]at b4;cases b4;have hid:l<s.mem.ε.length:=(fB.1 gM).1;have hp:=E4 (x:= .loop L') (blk:= .loop e p q c st) hs.mem hs.loc hs.own b2 hid b3
  ⟨b,hb,b2,b3,L',N2,Cb hL _,by rw[h1];exact b5,by rw[h2];exact b6,by rw[h1];exact b7,b8,by rw[h3];exact b9,by rw[h4];exact AG,Ω,CC⟩
 obtain⟨g',lb',aD,k1,k2⟩:=hs.after (dst:=none) rfl hp;refine⟨g',lb',aD,k1,?_⟩;have:s.mem.i_ l st=s.mem.put l (.loop e p q c st) true:=by simp only[Mem.i_,gM,Mem.put,if_true]
 rw[this];exact k2
theorem Zq(hs:SR gl base N LC cW g lb own s a w){l b:Nat}(hb:g.mb l=some b)(ov:s.mem.ls l=some .ready):
  ∃w',(Instr.beginRound b).run P w= .ok () w'/\∃g' lb' aD,eE g own w g' aD w'/\SR gl base N LC cW g' lb' aD {s with mem:=s.mem.i_ l .busy} a w':=by
 obtain⟨e,p,q,c,gM⟩:=OQ ov;obtain⟨b',b1,b2,b3,L,N2,b4,b5,b6,b7,b8,b9,AG,t_,CC⟩:=hs.mem.blk l _ gM;rw[hb]at b1;cases b1;obtain⟨g',lb',aD,k1,k2⟩:=XY hs hb ov (st:= .busy) (L':= {L with state:= .busy}) b4 rfl rfl rfl rfl rfl;refine⟨_,?_,g',lb',aD,k1,k2⟩;have q1:(getObj b).run P w= .ok (.loop L) w:=by simp only[getObj,Sem.run,b4]
 have q2:∀y,(setObj b y).run P w= .ok () (fO w b y):=fun y=>by simp only[setObj,Sem.run,b4];rfl
 simp only[Instr.beginRound,Instr.getLoop,Sem.run_bind,q1,Result.andThen_ok,Sem.run_pure,q2,t_.1]
theorem aa7(hs:SR gl base N LC cW g lb own s a w){l b:Nat}(hb:g.mb l=some b)(ov:s.mem.ls l=some .busy){jump:Option Code}{st:LS}
  (hj:(jump=none/\st= .ready)\/(jump=some .ret/\st= .done none)\/∃i,jump=some (.exit i)/\st= .done (some i)):
  ∃w',(Instr.endRound b jump).run P w= .ok (.bool jump.isNone) w'/\∃g' lb' aD,eE g own w g' aD w'/\SR gl base N LC cW g' lb' aD {s with mem:=s.mem.i_ l st} a w':=by
 obtain⟨e,p,q,c,gM⟩:=OQ ov;obtain⟨b',b1,b2,b3,L,N2,b4,b5,b6,b7,b8,b9,AG,t_,CC⟩:=hs.mem.blk l _ gM;rw[hb]at b1;cases b1;obtain⟨g',lb',aD,k1,k2⟩:=XY hs hb ov (st:=st) (L':= {L with state:=if jump.isNone then .ready else .done,pending:=jump}) b4 rfl rfl rfl rfl (by
  rcases hj with⟨rfl,rfl⟩|⟨rfl,rfl⟩|⟨i,rfl,rfl⟩
  ·exact⟨rfl,rfl⟩
  ·exact⟨rfl,trivial⟩
  ·exact⟨rfl,rfl⟩)
 refine⟨_,?_,g',lb',aD,k1,k2⟩;have q1:(getObj b).run P w= .ok (.loop L) w:=by simp only[getObj,Sem.run,b4]
 have q2:∀y,(setObj b y).run P w= .ok () (fO w b y):=fun y=>by simp only[setObj,Sem.run,b4];rfl
 simp only[Instr.endRound,Instr.getLoop,Sem.run_bind,q1,Result.andThen_ok,Sem.run_pure,q2]
theorem ajZ{N:Nat}:∀(ps:List Nat) (args:List AV) (bK:List Value) (env:List AV) (tmps:Array Value),ps.length=args.length->PW (VR g bV) args bK->N<=tmps.size->(∀p∈ps,p<N)→
  (∀t,VR g bV (aK env t) (tmps.getD t undef))→
  (∀t,VR g bV (aK (uX env ps args) t) (((ps.zip bK).foldl (fun tmps (x:Nat×Value)=>tmps.setIfInBounds x.1 x.2) tmps).getD t undef))∧
   N<=((ps.zip bK).foldl (fun tmps (x:Nat×Value)=>tmps.setIfInBounds x.1 x.2) tmps).size:=by
 intro ps;induction ps with
 |nil=>
  intro args bK env tmps hl cO hN hp hv
  cases args with
  |nil=>exact⟨by simpa[uX]using hv,by simpa using hN⟩
  |cons a args=>simp at hl
 |cons p ps ih=>
  intro args bK env tmps hl cO hN hp hv
  cases args with
  |nil=>simp at hl
  |cons x args=>
   cases bK with
   |nil=>exact absurd cO.1 (by simp)
   |cons y bK=>
    simp only[uX,List.zip_cons_cons,List.foldl_cons]
    refine ih args bK (nf env p x) (tmps.setIfInBounds p y) (by simpa using hl) ⟨by simpa using cO.1,fun i hi ae=>by have:=cO.2 (i+1) (by simpa using hi) (by simpa using ae);simpa using this⟩ (by simpa using hN) (fun q hq=>hp q (yj _ hq)) fun t=>?_;rw[fL,oK,amh];have dH:=hp p (by simp);by_cases NO:p=t
    ·subst NO;rw[if_pos rfl,if_pos rfl,if_pos (by omega)];exact cO.2 0 (by simp) (by simp)
    ·rw[if_neg NO,if_neg NO,<-oK];exact hv t
theorem nS.inRound(h:nS F P base LC gl ay)(b:Nat):nS (F.inRound b) P base LC gl ay:=
 fun n g lb own mem w fv args r m' fx bK h1 h2 h3 h4 h5 h6=>h n g lb own mem w fv args r m' fx bK h1 h2 h3 h4 h5 h6
theorem ajd(hF:∀f,F.fn f)(hd:F.depth=none)(iR:nS F P base (mA P) gl ay)(xk:Co P ay)(hK:KC ay){m:Nat}
  {l b:Nat} (hb:g.mb l=some b) {mem:Mem} (hm:bc g own (mA P) mem w) (ho:bT base own w) (eH:ni g gl) {args:List AV} {bK:Array Value} (iG:PW (VR g lb) args bK.toList) {r:AV} {m':Mem}
  (hx:round (exec gl ay (fV m)) l args mem=some (r,m')):
  ∃oc tmps fQ wL,(Instr.yield b bK).run P w= .ok (.round b oc tmps fQ wL) w∧
   RoundIn F n P b oc tmps fQ wL w fun e w'=>∃x,e= .returned x/\lW base (mA P) gl g own w r m' x w':=by
 unfold round at hx;split at hx
 ·rename_i env ps fQ body st gM;split at hx
  ·rename_i hlen;split at hx
   ·rename_i s1 Uq;split at hx
    ·rename_i acG;obtain⟨b',b1,b2,b3,L,N,b4,b5,b6,b7,b8,b9,AG,t_,CC⟩:=hm.blk l _ gM;rw[hb]at b1;cases b1;obtain⟨abb,H3⟩:=b9;obtain⟨abc,l_⟩:=AG;have aL:args.length=bK.size:=by simpa using iG.1
     have oe:PW (VR g bV) (args.map (exp mem.ε.length false)) bK.toList:=iG.map _ fun a b h=>(h.exp _ _).sub (g.F0 _);obtain⟨v1,v2⟩:=ajZ ps (args.map (exp mem.ε.length false)) bK.toList env L.tmps (by simpa using hlen) oe b7 b8 b5;have acp:(L.params.zip bK).foldl (fun tmps (x:Nat×Value)=>tmps.setIfInBounds x.1 x.2) L.tmps=(ps.zip bK.toList).foldl (fun tmps (x:Nat×Value)=>tmps.setIfInBounds x.1 x.2) L.tmps:=by rw[<-Array.foldl_toList,Array.toList_zip,b6]
     refine⟨L.fn,(ps.zip bK.toList).foldl (fun tmps (x:Nat×Value)=>tmps.setIfInBounds x.1 x.2) L.tmps,L.assign,L.body,?_,roundIn_of_wpIn (hF _) ?_⟩
     ·have q1:(getObj b).run P w= .ok (.loop L) w:=by simp only[getObj,Sem.run,b4]
      have cX:bK.size=L.params.size:=by rw[b6];simp;omega
      simp only[Instr.yield,Instr.getLoop,Sem.run_bind,q1,Result.andThen_ok,Sem.run_pure];rw[if_neg (by simp[cX]),<-acp];rfl
     ·have kQ:SR gl base N (mA P) w.heap.size g bV (eD own) {env:=uX env ps (args.map (exp mem.ε.length false)),loc:=[],mem:=mem}
        {tmps:=(ps.zip bK.toList).foldl (fun tmps (x:Nat×Value)=>tmps.setIfInBounds x.1 x.2) L.tmps,defers:=[]} w:=
       ⟨v1,eH,v2,Marks.nil (bS _),hm.eD,⟨fun d v l h=>(by cases h),fun d v s p h=>(by cases h),fun d v b h=>(by cases h)⟩,ho.eD⟩
      rw[H3]at Uq;refine Ln (F:=F.inRound b) hF hd (iR.inRound b) xk hK (fun c=>⟨abb,rfl⟩) m L.assign false (by simp) g bV (eD own) _ .normal s1 _ w _ kQ Uq fun g1 vY uM a1 w1 h1 h2=>?_;obtain⟨w2,oV,g2,Ev,qh,h3,h4⟩:=Zq (P:=P) h2 (h1.sub.2.1 _ _ hb) acG;refine⟨w2,oV,?_⟩;have fin:∀(ex:Ex) (s2:St) (jump:Option Code) (aV:LS),((jump=none/\aV= .ready)\/(jump=some .ret/\aV= .done none)\/∃i,jump=some (.exit i)/\aV= .done (some i))→
        exec gl ay (fV m) body {s1 with mem:=s1.mem.i_ l .busy}=some (ex,s2)->s2.mem.ls l=some .busy->r= .bool jump.isNone->m'=s2.mem.i_ l aV→
        (∀a3 w3,(∃v w',(Instr.endRound b jump).run P w3= .ok v w'/\∃x,Ending.returned v= .returned x/\lW base (mA P) gl g own w r m' x w')→
         roundPost P b (fun e w'=>∃x,e= .returned x/\lW base (mA P) gl g own w r m' x w') ex.AX a3 w3)→
        L.body.wpIn (F.inRound b) n P (roundPost P b fun e w'=>∃x,e= .returned x/\lW base (mA P) gl g own w r m' x w') a1 w2:=by
       intro ex s2 jump aV hj xh zf hr lP pd;rw[l_]at xh;refine Ln (F:=F.inRound b) hF hd (iR.inRound b) xk hK (fun c=>⟨abc,rfl⟩) m L.body false (by simp) g2 Ev qh _ ex s2 _ w2 _ h4 xh fun g3 lb3 uN a3 w3 h5 h6=>?_;obtain⟨w4,Bp,g4,lb4,ahn,h7,h8⟩:=aa7 (P:=P) h6 (h5.sub.2.1 _ _ (h3.sub.2.1 _ _ (h1.sub.2.1 _ _ hb))) zf hj;refine pd a3 w3 ⟨_,w4,Bp,_,rfl,?_⟩;have k:=((h1.trans h3).trans h5).trans h7;subst hr lP;refine⟨g4,eD ahn,⟨k.sub,k.size,k.os,k.tape,k.output,k.bf,fun b hb h=>W0 (k.jI b hb h),k.im⟩,h8.mem.eD,.bool _ _,h8.own.eD,fun b d hb=>?_,h8.gl⟩;obtain⟨_,id,h⟩:=uP hb;cases h
      split at hx
      ·rename_i s2 xh;split at hx
       ·rename_i zf;cases hx;exact fin .normal s2 none .ready (.inl ⟨rfl,rfl⟩) xh zf rfl rfl fun a3 w3 h=>h
       ·cases hx
      ·rename_i s2 xh;split at hx
       ·rename_i zf;cases hx;exact fin .ret s2 (some .ret) (.done none) (.inr (.inl ⟨rfl,rfl⟩)) xh zf rfl rfl fun a3 w3 h=>h
       ·cases hx
      ·rename_i i s2 xh;split at hx
       ·rename_i zf;cases hx;exact fin (.exit i) s2 (some (.exit i)) (.done (some i)) (.inr (.inr ⟨i,rfl,rfl⟩)) xh zf rfl rfl fun a3 w3 h=>h
       ·cases hx
      ·cases hx
    ·cases hx
   ·cases hx
  ·cases hx
 ·cases hx
theorem Ss(hF:∀f,F.fn f)(hd:F.depth=none)(vQ:F.round=none){C:iL}(hC:Fk F P base C):∀k,nS F P base (mA P) C.gl (cv C k):=by
 intro k;induction k with
 |zero=>intro n g lb own mem w fv args r m' fx bK _ _ _ _ _ h;simp[cv]at h
 |succ k ih=>
  intro n g lb own mem w fv args r m' fx bK hm ho eH DF iG hx
  simp only[cv,body]at hx;split at hx
  ·rename_i f first cap
   obtain⟨As,Bs,rfl,Mw,My⟩:∃As Bs,fx= .func (.func f) As Bs/\PW (VR g lb) first As.toList/\PW (VR g lb) cap Bs.toList:=by
    cases DF with
    |fn _ _ f2 _ _ As Bs hs ht hy hv hw=>
     cases f2<;>first|exact hy.elim|skip
     cases hy;exact⟨As,Bs,rfl,⟨by simpa using hs.symm,fun i hi ae=>by simpa using hv i hi (by simpa using ae)⟩,⟨by simpa using ht.symm,fun i hi ae=>by simpa using hw i hi (by simpa using ae)⟩⟩
   have dZ:(do let d<-Deferred.ofValue (.func (.func f) As Bs) bK;invoke d.target d.args:Sem Next).run P w=(callFunc f (As++bK++Bs)).run P w:=by simp only[Deferred.ofValue,Sem.run_bind,Sem.run_pure,Result.andThen_ok,invoke]
   have jX:PW (VR g bV) ((first++args++cap).map (exp mem.ε.length (C.bf f))) (As++bK++Bs).toList:=by have:=(Mw.append iG).append My;simp only[amo];exact this.map _ fun a b h=>(h.exp _ _).sub (g.F0 _)
   unfold tS;rw[dZ];split at hx
   ·rename_i p hp;exact hC.gQ f p hp n g own mem w _ r m' _ hm ho eH jX hx
   ·split at hx
    ·rename_i gf hg;obtain⟨fn,c,bj,h1,h2,h3,h4,h5⟩:=(hC.fs f gf hg).ex;exact .inl ⟨f,_,EY h1 (by simp[h2]) h3,Tf hF hd vQ ih (Ls hC k) (Lr C hC.EO k) h1 h2 h4 h5 hm ho eH jX hx⟩
    ·cases hx
  ·rename_i f nm first cap
   obtain⟨As,Bs,rfl,Mw,My⟩:∃As Bs,fx= .func (.func f) As Bs/\PW (VR g lb) first As.toList/\PW (VR g lb) cap Bs.toList:=by
    cases DF with
    |fn _ _ f2 _ _ As Bs hs ht hy hv hw=>
     cases f2<;>first|exact hy.elim|skip
     cases hy;exact⟨As,Bs,rfl,⟨by simpa using hs.symm,fun i hi ae=>by simpa using hv i hi (by simpa using ae)⟩,⟨by simpa using ht.symm,fun i hi ae=>by simpa using hw i hi (by simpa using ae)⟩⟩
   have dZ:(do let d<-Deferred.ofValue (.func (.func f) As Bs) bK;invoke d.target d.args:Sem Next).run P w=(callFunc f (As++bK++Bs)).run P w:=by simp only[Deferred.ofValue,Sem.run_bind,Sem.run_pure,Result.andThen_ok,invoke]
   have jX:PW (VR g bV) ((first++args++cap).map (exp mem.ε.length true)) (As++bK++Bs).toList:=by have:=(Mw.append iG).append My;simp only[amo];exact this.map _ fun a b h=>(h.exp _ _).sub (g.F0 _)
   unfold tS;rw[dZ];split at hx
   ·rename_i gf hg;obtain⟨fn,c,bj,h1,h2,h3,h4,h5⟩:=(hC.alts f gf hg).ex;exact .inl ⟨f,_,EY h1 (by simp[h2]) h3,Tf hF hd vQ ih (Ls hC k) (Lr C hC.EO k) h1 h2 h4 h5 hm ho eH jX hx⟩
   ·cases hx
  ·rename_i l;obtain⟨b,rfl,hb⟩:∃b,fx= .func (.yield b) #[] #[]/\g.mb l=some b:=by
    cases DF with
    |fn _ _ f2 _ _ As Bs hs ht hy hv hw=>
     cases f2<;>first|exact hy.elim|skip
     have e1:As= #[]:=J5.1 hs;have e2:Bs= #[]:=J5.1 ht;subst e1 e2;exact⟨_,rfl,hy⟩
   obtain⟨oc,tmps,fQ,wL,h1,h2⟩:=ajd (n:=n) hF hd ih (Ls hC k) (Lr C hC.EO k) hb hm ho eH iG hx;refine .inr (.inr ⟨b,oc,tmps,fQ,wL,?_,h2⟩);simp only[Deferred.ofValue,Sem.run_bind,Sem.run_pure,Result.andThen_ok,invoke];have:(#[]++bK:Array Value)=bK:=by simp
   rw[this];exact h1
  ·cases hx
end
end Go.Θ
