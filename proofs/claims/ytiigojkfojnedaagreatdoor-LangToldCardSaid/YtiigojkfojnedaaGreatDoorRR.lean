import Derived.Test.YtiigojkfojnedaaGreatDoorRA
import Derived.RangeFuncLeaves
set_option linter.all false
set_option maxRecDepth 100000
set_option maxHeartbeats 8000000
open Nat renaming add_mul->kA,add_comm->zU,lt_or_ge->di,one_mul->ak4,mul_le_mul_right->nu,le_refl->b_,mod_lt->mj,add_zero->qX,le_trans->uO,lt_of_lt_of_le->kg,max->ak_,max_eq_left->ak',add_assoc->uN,le_of_lt->zV,eq_or_lt_of_le->ala,strongRecOn->alb
open List renaming getElem?_append_left->d_,length_cons->cN,mem_cons_of_mem->xG,mem_of_mem_drop->tE,getElem_cons_succ->pX,getElem_drop->xF,mem_of_mem_take->qV,getElem?_take->BX,all_eq_true->dL,drop_take->BU,getElem?_eq_getElem->dp,mem_iff_getElem->o_,getElem_cons_zero->kz,drop_drop->o9,replicate->sn,replicate_succ->ak8,getElem_take->BY,drop_zero->BV,take_of_length_le->fe,getElem?_set->vW,mem_append->dQ,mem_cons->cB,length_take->lM,mem_append_left->zR,mem_append_right->BZ,mem_filter->zS,length_nil->eT,getElem?_eq_some_iff->fI,length_drop->lL,map_cons->ax,map_congr_left->dh,getElem?_cons_zero->BW,getD_eq_getElem?_getD->nr,getElem?_cons_succ->Ju,range->qW,mem_map->fb,mem_range->zT,getElem?_eq_none->gW,getElem_map->iQ,getElem_mem->db,nodup_cons->xH,map_nil->aI,length_map->cz
open Option.some renaming injEq->a_
open Prod.mk renaming injEq->az
open Go.World renaming cell?->sq
open Array renaming getElem_append_left->ak5,getElem_mem->ak6,toArray_toList->uL,getElem_toList->ma,getElem?_toList->BN,getElem?_eq_getElem->vR,getD_eq_getD_getElem?->ob,getElem?_setIfInBounds->ak9,getElem?_eq_none->alc,getElem?_eq_some_iff->zO,replicate->ald,getElem?_setIfInBounds_ne->Jm,toList_append->ale,size_eq_zero_iff->Jn
open Bool renaming and_eq_true->dy,not_true->ak7,false_eq_true->jO,true_and->sg,or_eq_true->BQ,not_eq_true'->BP,or_eq_false_iff->EN
open Option renaming map_eq_some_iff->bA,map_some->p8,bind_eq_some_iff->B0,getD_some->ES
namespace Go.Δ
section
variable{P:Program}{base:Nat}{LC:eS}{g g':Gh}{lb lb':LB}{own aD:OW}{loc:Nat->Option (Nat×θ)}{mem:Mem}{w w':World}
variable{bj:Nat->Bool}{ay:cg}{ev:bh->AV}{a:Act}{o:Oper}{ao:AO}{v:AV}{u:kB}{m':Mem}
theorem IW(n:Nat)(z:List AV):(rep n z).length=n*z.length:=by
 induction n with
 |zero=>simp[rep]
 |succ n ih=>simp[rep,ih,kA,zU]
theorem WE(z:List AV):∀(n k:Nat),k<n*z.length->(rep n z)[k]?=z[k % z.length]?:=by
 intro n;induction n with
 |zero=>intro k h;simp at h
 |succ n ih=>
  intro k h
  rw[rep];rcases di k z.length with ψ|eH
  ·rw[d_ ψ,Nat.mod_eq_of_lt ψ]
  ·rw[kA,ak4]at h;rw[List.getElem?_append_right eH,ih (k-z.length) (by omega),Nat.mod_eq_sub_mod eH]
theorem FR.pw{sz:Nat}:∀{l:List AV} {vs:List Value},FR g lb sz l vs->PW (VR g lb) (l.flatMap AV.cells) vs:=by
 intro l;induction l with
 |nil=>
  intro vs h
  have:vs=[]:=List.eq_nil_of_length_eq_zero (by have:=h.1;simpa using this);subst this;exact PW.nil
 |cons e l ih=>
  intro vs h
  obtain⟨h1,h2,h3,h4⟩:=h;have L7:e.cells.length=sz:=h2 e (by simp);simp only[cN,kA,ak4]at h1;have pK:FR g lb sz l (vs.drop sz):=by
   refine⟨by simp;omega,fun e he=>h2 e (xG _ he),fun v hv=>h3 v (tE hv),fun i hi j hj dI=>?_⟩;have:=h4 (i+1) (by simpa using hi) j (by simpa using hj) (by rw[kA];simp at dI;omega);simp only[pX,xF]at this⊢;have e1:(i+1)*sz+j=sz+(i*sz+j):=by rw[kA];omega
   simpa only[e1]using this
  have yB:PW (VR g lb) e.cells (vs.take sz):=by refine⟨by simp;omega,fun j hj dI=>?_⟩;have:=h4 0 (by simp) j (by simpa using hj) (by simp at dI;omega);simpa using this
  have:=yB.append (ih pK);rw[List.take_append_drop]at this;simpa[List.flatMap_cons]using this
theorem aiW(hm:aZ g own LC mem w){y:AV}{yv:Value}(hy:VR g lb y yv){sz k:Nat}{cs:List AV}(hc:cellsOf mem sz y=some (k,cs)):
  cs.length=k*sz/\(Builtin.lenOf yv).run P w= .ok k w/\∀j,j<=k->∃vs:List Value,(Builtin.firstCells sz j yv).run P w= .ok vs.toArray w/\PW (VR g lb) (cs.take (j*sz)) vs/\∀v∈vs,v.oneCell'=true:=by
 have key:∀(b o cap:Nat) (full:List Value),yv= .slice (some ⟨b,o,none⟩) k cap->cs.length=k*sz->PW (VR g lb) cs full->(∀v∈full,v.oneCell'=true)→
   (∀j v,full[j]?=some v->w.cell? ⟨b,o+j,none⟩=some v)->cs.length=k*sz/\(Builtin.lenOf yv).run P w= .ok k w∧
   ∀j,j<=k->∃vs:List Value,(Builtin.firstCells sz j yv).run P w= .ok vs.toArray w/\PW (VR g lb) (cs.take (j*sz)) vs/\∀v∈vs,v.oneCell'=true:=by
  rintro b o cap full rfl hlen cI h1 mU
  refine⟨hlen,rfl,fun j hj=>⟨full.take (j*sz),?_,cI.take _,fun v hv=>h1 v (qV hv)⟩⟩;have rD:j*sz<=full.length:=by rw[<-cI.1,hlen];exact nu _ hj
  have AZ:=run_loadCells_list (P:=P) w ⟨b,o,none⟩ (full.take (j*sz)) (fun q v hv=>by
   rw[Addr.add_mid]
   rw[BX]at hv;split at hv
   ·exact mU q v hv
   ·cases hv)
  have abt:(full.take (j*sz)).length=j*sz:=by simp;omega
  rw[abt]at AZ;simp only[Builtin.firstCells,AZ]
 cases y with
 |list c l=>
  simp only[cellsOf]at hc
  split at hc
  ·rename_i jU;simp only[a_,az]at hc;obtain⟨rfl,rfl⟩:=hc;simp only[dL,decide_eq_true_eq]at jU;by_cases hle:l=[]
   ·subst hle;have Nh:(yv= .slice none 0 0)\/(∃ad cap,yv= .slice (some ad) 0 cap)\/∃b o cap,yv= .slice (some ⟨b,o,none⟩) 0 cap:=by
     cases hy with
     |iM=>exact .inl rfl
     |h_ _ _ ad cap hc=>exact .inr (.inl ⟨_,_,rfl⟩)
     |list _ _ _ b o eN n cap xs hn=>simp at hn;subst hn;exact .inr (.inr ⟨_,_,_,rfl⟩)
    rcases Nh with rfl|⟨ad,cap,rfl⟩|⟨b,o,cap,rfl⟩
    ·refine⟨by simp,rfl,fun j hj=>⟨[],rfl,by simp[PW],by simp⟩⟩
    ·refine⟨by simp,rfl,fun j hj=>⟨[],?_,by simp[PW],by simp⟩⟩;have:j=0:=by simp at hj;exact hj
     subst this;simp[Builtin.firstCells,loadCells,loadCellsFrom]
    ·exact key b o cap [] rfl (by simp) PW.nil (by simp) (by simp)
   ·obtain⟨b,o,cap,vs,rfl,-,-,dH,cx⟩:=hy.flat jU hle;have hp:=dH.pw;refine key b o cap vs rfl ?_ (hp.mono fun _ _ h=>h.mono g.eM fun _ _ _ h=>by cases h) dH.2.2.1 (fun j v hv=>hm.im _ _ _ (cx j v hv));rw[hp.1,dH.1]
  ·cases hc
 |sl kd id off n cap=>
  simp only[cellsOf]at hc
  split at hc
  ·rename_i l hb;split at hc
   ·rename_i hle;simp only[a_,az]at hc;obtain⟨rfl,rfl⟩:=hc;cases hy with
    |sl _ _ _ _ _ _ gh b mz ew aW=>
    obtain⟨b2,k1,k2⟩:=hm.blk id _ hb
    rw[aW]at k1;cases k1;obtain⟨aa,e,k3,k4,HW,k5⟩:=k2.pw;have L5:(aa.toList.drop off).take (n*sz)=((aa.toList.take l.length).drop off).take (n*sz):=by rw[BU,List.take_take,Nat.min_eq_left (by omega)]
    refine key b off gh ((aa.toList.drop off).take (n*sz)) rfl (by simp;omega) ((L5▸(k4.drop off).take (n*sz):PW (VR g bP) _ _).mono fun _ _ h=>h.mono g.eM fun _ _ _ h=>by cases h) (fun v hv=>k5 v (tE (qV hv))) (fun j v hv=>?_);rw[BX]at hv;split at hv
    ·rw[List.getElem?_drop]at hv;simpa[sq,k3]using hv
    ·cases hv
   ·cases hc
  ·cases hc
 |_=>simp[cellsOf]at hc
theorem VG(hm:aZ g own LC mem w)(hl:cj g lb own loc w)(ho:bO base own w){l:List AV}{vs:List Value}{rest:Array Value}{e:TypeId}{kd n cap:Nat}(cI:PW (VR g lb) l vs)(h1:∀v∈vs,v.oneCell'=true)(hr:∀v∈rest,v.oneCell'=true)(hn:n<=cap):
  gX base LC g lb own loc w (.sl kd mem.ε.length 0 n n) none (mem.push (.cells (l.map mem.ν))) (.slice (some ⟨w.heap.size,0,none⟩) n cap) (w.drew.alloc (.cells (vs.toArray++rest) e)):=by
 refine gX.drew ?_;have nO:=cI.1;have oQ:=VI (LC:=LC) (cs:=vs.toArray++rest) (l:=l) (e:=e) (oD:=true) (dst:=none) hm.drew hl.drew ho.drew (by simp;omega) (fun i hi ae=>by
   have ja:i<vs.length:=by omega
   have:=cI.2 i hi ja;rw[ak5 (by simpa using ja)];simpa using this) (fun i ae=>by
   rcases di i vs.length with h|h
   ·rw[ak5 (by simpa using h)];exact h1 _ (by simp)
   ·rw[Array.getElem_append_right (by simpa using h)];exact hr _ (ak6 _)) (rfl:newVar loc mem true none l=some (.κ mem.ε.length 0,none,_))
 obtain⟨g',lb',aD,p1,p2,p3,p4,p5,p6⟩:=oQ;refine⟨g',lb',aD,p1,p2,?_,p4,p5,p6⟩;cases p3 with
 |κ _ _ _ b hb=>exact .sl _ _ _ _ _ _ _ _ (b_ _) hn hb
theorem X3(hm:aZ g own LC mem w)(hl:cj g lb own loc w)(ho:bO base own w){x y:AV}{xv yv:Value}(hx:VR g lb x xv)(hy:VR g lb y yv)
  {t ty e:TypeId} {i:TypeInfo} {z:Value} (ht:P.underlying t=some (.slice e)) (hi:P.info? e=some i) (hz:i.zero=some z) (kI:z.cells.size=i.size) (fX:∀v∈z.cells.toList,v.oneCell'=true)
  {ag:Bool} {v:AV} {m':Mem} (hr:vZ mem ag i.size i.bytes x y=some (v,m')):
  ∃(xr:Value) (w':World),(Builtin.append_ #[t,t] ty #[xv,yv]).run P w= .ok xr w'/\gX base LC g lb own loc w v none m' xr w':=by
 unfold vZ at hr;split at hr
 ·rename_i c c' m;split at hr
  ·rename_i iY;simp only[dy,dL,decide_eq_true_eq]at iY;obtain⟨⟨⟨⟨mC,h0⟩,va⟩,hlen⟩,ew⟩:=iY;have MF:∀e∈m,e.cells.length=i.size:=fun e he=>I6 (mC e he);split at hr
   ·cases hr;refine PF (P:=P) (ag:=ag) hm hl ho hx hy ht hi hz kI ?_;have:decide (0<i.size)=true:=decide_eq_true h0;unfold iq;rcases ew with rfl|rfl<;>simp[h0]
   ·rename_i rF;have rF:m≠[]:=fun h=>rF (by rw[h]);cases hr;have A0:0<m.length:=List.length_pos_iff.2 rF;obtain⟨yb,yo,tz,us,rfl,-,-,kV,Ml⟩:=hy.flat MF rF;have sS:∀j u,us[j]?=some u->w.cell? ((⟨yb,yo,none⟩:Addr).add j)=some u:=fun j u hj=>by rw[Addr.add_mid];exact hm.im _ _ _ (Ml j u hj)
    have cI:PW (VR g lb) (m.flatMap AV.cells) us:=kV.pw.mono fun _ _ h=>h.mono g.eM fun _ _ _ h=>by cases h
    have DP:∀n,∀v∈Builtin.zeroCells z.cells n,v.oneCell'=true:=fun n v hv=>by
     simp only[Builtin.zeroCells,Array.mem_map,Array.mem_range]at hv;obtain⟨k,hk,rfl⟩:=hv;have c8:k % z.cells.size<z.cells.size:=mj _ (by
      rcases Nat.eq_zero_or_pos z.cells.size with h|h
      ·rw[h]at hk;omega
      ·exact h)
     rw[getElem!_pos z.cells _ c8];exact fX _ (by simp)
    have DM:xv= .slice none 0 0\/∃ad,xv= .slice (some ad) 0 0:=by
     cases hx with
     |iM=>exact .inl rfl
     |h_ _ _ ad cap hc=>
      rcases hc with hc|⟨_,hc⟩
      ·subst hc;rcases ew with h|h<;>cases h
      ·exact .inr ⟨ad,by rw[hc]⟩
     |list _ _ _ b o sz n cap xs hn dN hc=>
      simp at hn;subst hn
      rcases ew with rfl|rfl
      ·exact .inr ⟨⟨b,o,none⟩,by simp only[mP]at hc;subst hc;rfl⟩
      ·exact hc.elim
    have vi:(m.length:Int)<=9223372036854775807:=by omega
    rcases DM with rfl|⟨ad,rfl⟩
    ·exact⟨_,_,run_append_nil (P:=P) w t ty e i z ht hi hz ⟨yb,yo,none⟩ m.length tz us kV.1 sS A0 vi (by omega),VG hm hl ho cI kV.2.2.1 (DP _) (grownCap_ge w m.length 0 e)⟩
    ·have hg:=run_append_grow (P:=P) w t ty e i z ht hi hz ad 0 0 [] (by simp) (by simp) ⟨yb,yo,none⟩ m.length tz us kV.1 sS (by omega) (by omega) (growslice_fits (by omega) (by simpa using va));refine⟨_,_,hg,?_⟩;have:=VG (LC:=LC) (kd:=if ag then i.size else 0) (e:=e) hm hl ho cI kV.2.2.1 (DP (grownCap w m.length 0 e-m.length)) (grownCap_ge w m.length 0 e);simpa using this
  ·cases hr
 ·cases hr
theorem afH(aw:eO g lb ev a)(hm:aZ g own LC mem w)(hl:cj g lb own loc w)(ho:bO base own w){c:Call}(Θ:o.op= .call c)(hb:c.callee= .builtin .append){ag:Bool}{sz bytes:Nat}{e:TypeId}{x' y':bh}
  (hc:cO P bj o=some (.appm ag sz bytes e x' y')) (hr:aJ ev loc mem ay o.dst (.appm ag sz bytes e x' y')=some (v,u,m')):qY P base LC g lb own loc w a o v u m':=by
 simp only[cO,Θ,hb]at hc;split at hc
 ·rename_i x y t t' iC sX;split at hc
  ·rename_i e2 x2 y2 hu hx hy;split at hc
   ·rename_i i ag2 z hi lv hz;split at hc
    ·rename_i mD;subst mD;by_cases mA:At bj o.dst=true
     ·rw[if_pos mA]at hc;cases hc;have nI:(c.args.map a.eval)= #[a.eval x,a.eval y]:=by
       have:(c.args.map a.eval).toList=[a.eval x,a.eval y]:=by simp[iC]
       rw[<-uL (xs:=c.args.map a.eval),this]
      have pN:c.argTypes= #[t,t]:=by rw[<-uL (xs:=c.argTypes),sX]
      simp only[aJ,bA,az,Prod.exists]at hr;obtain⟨r,m1,hr,rfl,rfl,rfl⟩:=hr;obtain⟨zv,i',ae,fX,hU,kI,-,-,-,hzo⟩:=zJ (P:=P) (g:=g) (lb:=lb) (w:=w) hz;rw[hi]at ae;cases ae;obtain⟨xr,w',h1,h2⟩:=X3 (P:=P) (ty:=o.type) hm hl ho (aw _ _ hx) (aw _ _ hy) hu hi fX kI hzo hr;refine⟨xr,w',.inl ?_,h2⟩;simp only[execOp,Θ,resolve,hb,nI,pN,Sem.run_bind,Sem.run_pure,Result.andThen_ok,invoke,builtin,h1]
     ·rw[if_neg mA]at hc;cases hc
    ·cases hc
   ·cases hc
  ·cases hc
 ·cases hc
theorem afG(aw:eO g lb ev a)(hm:aZ g own LC mem w)(hl:cj g lb own loc w)(ho:bO base own w){c:Call}(Θ:o.op= .call c)(hb:c.callee= .builtin .append)
  :gA P bj base LC g lb own loc mem w ay ev a o ao v u m':=fun hc hr=>by
 by_cases Tm:∃ag sz bytes e x y,ao= .appm ag sz bytes e x y
 ·obtain⟨ag,sz,bytes,e,x,y,rfl⟩:=Tm;exact afH aw hm hl ho Θ hb hc hr
 ·exact afF aw hm hl ho Θ hb hc (fun ag sz bytes e x y h=>Tm ⟨ag,sz,bytes,e,x,y,h⟩) hr
theorem af2(aw:eO g lb ev a)(hm:aZ g own LC mem w)(hl:cj g lb own loc w)(ho:bO base own w){t:TypeId}{x y:Operand}(Θ:o.op= .makeSlice t x y)
  :gA P bj base LC g lb own loc mem w ay ev a o ao v u m':=fun hc hr=>by
 simp only[cO,Θ]at hc;split at hc
 ·rename_i e x' y' hu hx hy;split at hc
  ·rename_i z i hz hi;cases hc;simp only[aJ]at hr;split at hr
   ·rename_i kn n kc c e1 e2;split at hr
    ·rename_i hb;simp only[a_,az]at hr;obtain⟨rfl,rfl,rfl⟩:=hr;have k1:=aw _ _ hx;have k2:=aw _ _ hy;rw[e1]at k1;rw[e2]at k2;obtain⟨zv,i',ae,fX,hU,kI,uf,jL,Nl,Nj⟩:=zJ (P:=P) (g:=g) (lb:=lb) (w:=w) hz;rw[hi]at ae;cases ae;obtain⟨b0,b1,b2,b3⟩:=hb;have dT:=run_make (P:=P) w t e i zv hu hi fX kn kc n c b0 b1 b2 b3;have aO:(madeCells zv.cells (c.toNat*i.size)).size=(rep c.toNat z).length:=by rw[size_madeCells,IW,uf]
     have Dm:∀k (h:k<(rep c.toNat z).length) (h':k<(madeCells zv.cells (c.toNat*i.size)).size),
       (rep c.toNat z)[k]=z[k % z.length]'(mj _ (by omega))/\(madeCells zv.cells (c.toNat*i.size))[k]=zv.cells[k % zv.cells.size]'(mj _ (by omega)):=by
      intro k h h';have hk:k<c.toNat*z.length:=by rw[IW]at h;exact h
      refine⟨?_,?_⟩
      ·have:=WE z c.toNat k hk;rw[dp h,dp (mj _ (by omega))]at this;exact Option.some.inj this
      ·have hm:k % zv.cells.size<zv.cells.size:=mj _ (by omega);simp[madeCells,hm]
     have oQ:=Od (LC:=LC) (e:=e) (oD:=true) (dst:=none) hm hl ho aO (fun k h h'=>by
       obtain⟨q1,q2⟩:=Dm k h h'
       rw[q1,q2];have:=Nl.2 (k % z.length) (mj _ (by omega)) (by simp;rw[kI,<-uf];exact mj _ (by omega));have he:k % zv.cells.size=k % z.length:=by rw[kI,uf]
       simpa only[he,ma]using this) (fun k h'=>by
       obtain⟨-,q2⟩:=Dm k (by omega) h';rw[q2];exact Nj _ (by simp)) (rfl:newVar loc mem true none (rep c.toNat z)=some (.κ mem.ε.length 0,none,_))
     refine⟨.slice (some ⟨w.heap.size,0,none⟩) n.toNat c.toNat,w.alloc (.cells (madeCells zv.cells (c.toNat*i.size)) e),.inl ?_,?_⟩
     ·exact(by simp only[execOp,Θ,uH k1,uH k2,Sem.run_bind,dT,Result.andThen_ok];rfl)
     ·obtain⟨g',lb',aD,p1,p2,p3,p4,p5,p6⟩:=oQ;refine⟨g',lb',aD,p1,p2,?_,p4,p5,p6⟩;cases p3 with
      |κ _ _ _ b hb=>exact .sl _ _ _ _ _ _ _ _ (by omega) (b_ _) hb
    ·cases hr
   ·cases hr
  ·cases hc
 ·cases hc
theorem afN(aw:eO g lb ev a)(hm:aZ g own LC mem w)(hl:cj g lb own loc w)(ho:bO base own w){c:Call}(Θ:o.op= .call c)(hb:c.callee= .builtin .copy)
  :gA P bj base LC g lb own loc mem w ay ev a o ao v u m':=fun hc hr=>by
 simp only[cO,Θ,hb]at hc;split at hc
 ·rename_i x y t ts iC sX;split at hc
  ·rename_i e x' y' hu hx hy;simp only[bA]at hc;obtain⟨sz,aO,rfl⟩:=hc;have nI:(c.args.map a.eval)= #[a.eval x,a.eval y]:=by
    have:(c.args.map a.eval).toList=[a.eval x,a.eval y]:=by simp[iC]
    rw[<-uL (xs:=c.args.map a.eval),this]
   have pN:c.argTypes[0]?=some t:=by rw[<-BN,sX];rfl
   simp only[aJ]at hr;split at hr
   ·rename_i id off n cp e1;split at hr
    ·rename_i k cs iZ;simp only[bA,az,Prod.exists]at hr;obtain⟨u1,m1,hw,rfl,rfl,rfl⟩:=hr;have k1:=aw _ _ hx;rw[e1]at k1;obtain⟨b,cq,bF,hid,dN,yw⟩:∃b cq,a.eval x= .slice (some ⟨b,off,none⟩) n cq/\g.mb id=some b/\n<=cp/\cp<=cq:=by
      generalize a.eval x=xv at k1;cases k1 with
      |sl _ _ _ _ _ _ cq b mz yw aW=>exact⟨b,cq,rfl,aW,mz,yw⟩
     obtain⟨s1,s2,-⟩:=o6 (P:=P) (w:=w) aO;obtain⟨q1,q2,q3⟩:=aiW (P:=P) hm (aw _ _ hy) iZ;obtain⟨vs,q4,q5,q6⟩:=q3 (Nat.min k n) (Nat.min_le_left _ _);have M_:u1=none:=by
      simp only[wr]at hw;split at hw
      ·split at hw
       ·cases hw;rfl
       ·cases hw
      ·cases hw
     subst M_;have nS:wr loc mem (.κ id off) (cs.take (Nat.min k n*sz))=some (none,m1):=hw;obtain⟨b2,afs,aa,ee,w1,w2,w3,w4⟩:=Pd hm hl ho (.κ lb id off b hid) q5 q6 nS;cases w1;have Ω:=run_storeCells_at P b off ee vs 0 aa w w2 (by simpa using w3) q6;simp only[qX]at Ω;refine⟨.int .i64 (Nat.min k n:Nat),w.setRow b (arr aa off vs),.inl ?_,?_⟩
     ·simp only[execOp,Θ,resolve,hb,nI,Sem.run_bind,Sem.run_pure,Result.andThen_ok,invoke,builtin,Builtin.copy_,pN,bF];have M8:(storeCells ⟨b,off,none⟩ vs).run P w= .ok () (w.setRow b (arr aa off vs)):=Ω;have wQ:(Builtin.lenOf (.slice (some ⟨b,off,none⟩) n cp)).run P w= .ok n w:=rfl;simp[run_underlying hu,q2,s1,q4,M8,goInt]
     ·obtain⟨g',lb',aD,p1,p2,p3,p4,p5,p6⟩:=w4;exact⟨g',lb',aD,p1,p2,.int _ _ _,p4,p5,p6⟩
    ·cases hr
   ·cases hr
  ·cases hc
 ·cases hc
theorem afL(aw:eO g lb ev a)(hm:aZ g own LC mem w)(hl:cj g lb own loc w)(ho:bO base own w){c:Call}(Θ:o.op= .call c)(hb:c.callee= .builtin .clear)
  :gA P bj base LC g lb own loc mem w ay ev a o ao v u m':=fun hc hr=>by
 simp only[cO,Θ,hb]at hc;split at hc
 ·rename_i x t iC sX;split at hc
  ·rename_i e x' hu hx;simp only[bA]at hc;obtain⟨z,hz,rfl⟩:=hc;have nI:(c.args.map a.eval)= #[a.eval x]:=by
    have:(c.args.map a.eval).toList=[a.eval x]:=by simp[iC]
    rw[<-uL (xs:=c.args.map a.eval),this]
   have pN:c.argTypes[0]?=some t:=by rw[<-BN,sX];rfl
   have k1:=aw _ _ hx;simp only[aJ]at hr;split at hr
   ·rename_i cc e1;simp only[a_,az]at hr;obtain⟨rfl,rfl,rfl⟩:=hr;rw[e1]at k1;have bF:∃A cap,a.eval x= .slice A 0 cap:=by
     generalize a.eval x=xv at k1;cases k1 with
     |iM=>exact⟨_,_,rfl⟩
     |h_=>exact⟨_,_,rfl⟩
     |list _ _ _ b o sz n cap xs hn=>simp at hn;subst hn;exact⟨_,_,rfl⟩
    obtain⟨A,cap,bF⟩:=bF;refine .pure hm hl ho (x:= .tuple #[]) ?_ (.undef _);simp only[execOp,Θ,resolve,hb,nI,Sem.run_bind,Sem.run_pure,Result.andThen_ok,invoke,builtin,Builtin.clear_,pN,bF];cases A<;>simp[run_underlying hu]
   ·rename_i id off n cp e1;rw[e1]at k1;obtain⟨b,cq,bF,hid,dN,yw⟩:∃b cq,a.eval x= .slice (some ⟨b,off,none⟩) n cq/\g.mb id=some b/\n<=cp/\cp<=cq:=by
     generalize a.eval x=xv at k1;cases k1 with
     |sl _ _ _ _ _ _ cq b mz yw aW=>exact⟨b,cq,rfl,aW,mz,yw⟩
    split at hr
    ·rename_i hn;simp only[a_,az]at hr;obtain⟨rfl,rfl,rfl⟩:=hr;subst hn;refine .pure hm hl ho (x:= .tuple #[]) ?_ (.undef _);simp only[execOp,Θ,resolve,hb,nI,Sem.run_bind,Sem.run_pure,Result.andThen_ok,invoke,builtin,Builtin.clear_,pN,bF];simp[run_underlying hu]
    rename_i hn;simp only[bA,az,Prod.exists]at hr;obtain⟨u1,m1,hw,rfl,rfl,rfl⟩:=hr;have M_:u1=none:=by
     simp only[wr]at hw;split at hw
     ·split at hw
      ·cases hw;rfl
      ·cases hw
     ·cases hw
    subst M_;have nS:wr loc mem (.κ id off) (rep n z)=some (none,m1):=hw;obtain⟨zv,i,hi,fX,hU,kI,uf,jL,Nl,Nj⟩:=zJ (P:=P) (g:=g) (lb:=lb) (w:=w) hz;have aO:(Builtin.zeroCells zv.cells n).size=(rep n z).length:=by rw[size_zeroCells,IW,uf,kI]
    have Dm:∀k (h:k<(rep n z).length) (h':k<(Builtin.zeroCells zv.cells n).size),
      (rep n z)[k]=z[k % z.length]'(mj _ (by omega))/\(Builtin.zeroCells zv.cells n)[k]=zv.cells[k % zv.cells.size]'(mj _ (by omega)):=by
     intro k h h';have hk:k<n*z.length:=by rw[IW]at h;exact h
     refine⟨?_,?_⟩
     ·have:=WE z n k hk;rw[dp h,dp (mj _ (by omega))]at this;exact Option.some.inj this
     ·have hm:k % zv.cells.size<zv.cells.size:=mj _ (by omega);simp[Builtin.zeroCells,hm]
    have cI:PW (VR g lb) (rep n z) (Builtin.zeroCells zv.cells n).toList:=by
     refine⟨by simp[aO],fun k h h'=>?_⟩;obtain⟨q1,q2⟩:=Dm k h (by simpa using h');have e3:(Builtin.zeroCells zv.cells n).toList[k]=(Builtin.zeroCells zv.cells n)[k]'(by simpa using h'):=ma _;rw[q1,e3,q2];have:=Nl.2 (k % z.length) (mj _ (by omega)) (by simp;rw[kI,<-uf];exact mj _ (by omega));have he:k % zv.cells.size=k % z.length:=by rw[kI,uf]
     simpa only[he,ma]using this
    have h1:∀v∈(Builtin.zeroCells zv.cells n).toList,v.oneCell'=true:=by intro v hv;obtain⟨k,hk,rfl⟩:=o_.1 hv;obtain⟨-,q2⟩:=Dm k (by simpa[aO]using hk) (by simpa using hk);have e3:(Builtin.zeroCells zv.cells n).toList[k]=(Builtin.zeroCells zv.cells n)[k]'(by simpa using hk):=ma _;rw[e3,q2];exact Nj _ (by simp)
    obtain⟨b2,afs,aa,ee,w1,w2,w3,w4⟩:=Pd hm hl ho (.κ lb id off b hid) cI h1 nS;cases w1;have Ω:=run_storeCells_at P b off ee _ 0 aa w w2 (by simpa using w3) h1;simp only[qX]at Ω;refine⟨.tuple #[],w.setRow b (arr aa off (Builtin.zeroCells zv.cells n).toList),.inl ?_,?_⟩
    ·simp only[execOp,Θ,resolve,hb,nI,Sem.run_bind,Sem.run_pure,Result.andThen_ok,invoke,builtin,Builtin.clear_,pN,bF];obtain⟨n',rfl⟩:∃n',n=n'+1:=⟨n-1,by omega⟩;simp[run_underlying hu,hU,Ω,arr]
    ·obtain⟨g',lb',aD,p1,p2,p3,p4,p5,p6⟩:=w4;exact⟨g',lb',aD,p1,p2,.undef _,p4,p5,p6⟩
   ·cases hr
  ·cases hc
 ·cases hc
end
section
variable{P:Program}{base:Nat}{LC:eS}{g:Gh}{lb:LB}{own:OW}{loc:Nat->Option (Nat×θ)}{mem:Mem}{w:World}{bj:Nat->Bool}{ay:cg}
variable{ev:bh->AV}{a:Act}{o:Oper}{ao:AO}{v:AV}{u:kB}{m':Mem}
def Af:KK->AV->AV->Option Bool
 | .int,.int k a,.int k' b=>if k=k' then some (decide (a=b))else none
 | .str,.str a,.str b=>some (decide (a=b))
 | .bool,.bool a,.bool b=>some (a==b)
 |_,_,_=>none
theorem KS{k:KK}{ks:List KK}{l m:List AV}{r:Bool}(h:jH (k::ks) l m=some r):
  ∃x y l' m' r1 r2,l=x::l'/\m=y::m'/\Af k x y=some r1/\jH ks l' m'=some r2/\r=(r1&&r2):=by
 cases k<;>cases l with
 |nil=>simp[jH]at h
 |cons x l=>
  cases m with
  |nil=>cases x<;>simp[jH]at h
  |cons y m=>
   cases x<;>cases y<;>simp only[jH]at h<;>first|(cases h;done)|skip
   all_goals first
    |(
      split at h
      ·rename_i hk;simp only[bA]at h;obtain⟨r2,h2,rfl⟩:=h;exact⟨_,_,_,_,_,r2,rfl,rfl,by simp only[Af,hk,if_true],h2,rfl⟩
      ·cases h)
    |(
      simp only[bA]at h
      obtain⟨r2,h2,rfl⟩:=h;exact⟨_,_,_,_,_,r2,rfl,rfl,rfl,h2,rfl⟩)
theorem WL{k:KK}{t:TypeId}(hk:pO P t=some k){x y:AV}{xv yv:Value}(hx:VR g lb x xv)(hy:VR g lb y yv){r:Bool}(h:Af k x y=some r)(d:Nat):
  (Op.equalIn (d+1) t xv yv).run P w= .ok r w:=by
 unfold pO at hk;split at hk
 ·rename_i q hu;cases hk;cases x<;>cases y<;>simp only[Af]at h<;>first|(cases h;done)|skip
  split at h
  ·rename_i eC;subst eC;cases h;cases hx;cases hy;rw[run_equalIn_int w d t _ _ _ _ hu];rfl
  ·cases h
 ·rename_i hu;cases hk;cases x<;>cases y<;>simp only[Af]at h<;>first|(cases h;done)|skip
  cases h;cases hx;cases hy;rename_i b1 h1 b2 h2;rw[run_equalIn_string w d t _ _ hu,O6 h1 h2]
 ·rename_i hu;cases hk;cases x<;>cases y<;>simp only[Af]at h<;>first|(cases h;done)|skip
  cases h;cases hx;cases hy;exact run_equalIn_bool d hu _ _
 ·cases hk
theorem aek{t:TypeId}{k:KK}(h:pO P t=some k):(isAgg t).run P w= .ok false w:=by
 unfold pO at h;split at h
 ·rename_i hu;simp[isAgg,run_underlying hu]
 ·rename_i hu;simp[isAgg,run_underlying hu]
 ·rename_i hu;simp[isAgg,run_underlying hu]
 ·cases h
theorem IX{t:TypeId}{k:KK}(h:pO P t=some k){cs:Array Value}{off:Nat}(ho:off<cs.size):(part t cs off).run P w= .ok cs[off] w:=by simp[part,aek h,vR ho]
theorem RM(d:Nat){xs ys:Array Value}:∀(fs:List Field) (k:Nat) (ks:List KK) (l m:List AV) (r:Bool),FK P k fs=some ks->jH ks l m=some r→
  PW (VR g lb) l (xs.toList.drop k)->PW (VR g lb) m (ys.toList.drop k)->(Op.eqFields (d+1) xs ys fs).run P w= .ok r w
 |[],k,ks,l,m,r,hf,he,_,_=>by cases hf;cases l<;>cases m<;>simp[jH]at he;subst he;rfl
 |f::fs,k,ks,l,m,r,hf,he,hx,hy=>by
  simp only[FK]at hf;split at hf
  ·rename_i kk ks' h1 h2 h3;split at hf
   ·rename_i hc;obtain⟨abI,rfl⟩:=hc;cases hf;obtain⟨x,y,l',m',r1,r2,rfl,rfl,e1,e2,rfl⟩:=KS he;have Mt:f.offset<xs.size:=by have:=hx.1;simp at this;omega
    have Mu:f.offset<ys.size:=by have:=hy.1;simp at this;omega
    have vx:=hx.2 0 (by simp) (by simp;omega);have vy:=hy.2 0 (by simp) (by simp;omega);simp only[kz,xF,qX,ma]at vx vy;have gj:PW (VR g lb) l' (xs.toList.drop (f.offset+1)):=by have:=hx.drop 1;simpa[o9]using this
    have lV:PW (VR g lb) m' (ys.toList.drop (f.offset+1)):=by have:=hy.drop 1;simpa[o9]using this
    have ih:=RM d fs (f.offset+1) ks' l' m' r2 h3 e2 gj lV;have yu:=WL (P:=P) (w:=w) h1 vx vy e1 d;simp only[Op.eqFields];rw[if_pos abI];simp only[Sem.run_bind,IX h1 Mt,IX h1 Mu,Result.andThen_ok,yu];cases r1
    ·rfl
    ·simp only[ak7,jO,if_false,sg];exact ih
   ·cases hf
  ·cases hf
theorem PH(d:Nat){e:TypeId}{k:KK}(hk:pO P e=some k){xs ys:Array Value}:∀(n i:Nat) (l m:List AV) (r:Bool),jH (sn n k) l m=some r→
  PW (VR g lb) l ((xs.toList.drop i).take n)->PW (VR g lb) m ((ys.toList.drop i).take n)→
  (forIn (m:=Sem) (List.range' i n) ((none,()):Option Bool×Unit) fun j _=>do
    if !(<-Op.equalIn (d+1) e (<-part e xs (j*1)) (<-part e ys (j*1)))then pure (ForInStep.done (some false,()))else pure (ForInStep.yield (none,()))).run P w=
   .ok (if r then(none,())else(some false,())) w
 |0,i,l,m,r,he,_,_=>by cases l<;>cases m<;>simp[jH]at he;subst he;rfl
 |n+1,i,l,m,r,he,hx,hy=>by
  rw[ak8]at he;obtain⟨x,y,l',m',r1,r2,rfl,rfl,e1,e2,rfl⟩:=KS he;have Mt:i<xs.size:=by have:=hx.1;simp at this;omega
  have Mu:i<ys.size:=by have:=hy.1;simp at this;omega
  have vx:=hx.2 0 (by simp) (by simp;omega);have vy:=hy.2 0 (by simp) (by simp;omega);simp only[kz,BY,xF,qX,ma]at vx vy;have gj:PW (VR g lb) l' ((xs.toList.drop (i+1)).take n):=by have:=hx.drop 1;simpa[BU,o9]using this
  have lV:PW (VR g lb) m' ((ys.toList.drop (i+1)).take n):=by have:=hy.drop 1;simpa[BU,o9]using this
  have ih:=PH d hk n (i+1) l' m' r2 e2 gj lV;have yu:=WL (P:=P) (w:=w) hk vx vy e1 d;rw[List.range'_succ];simp only[List.forIn_cons,Sem.run_bind,Nat.mul_one,IX hk Mt,IX hk Mu,Result.andThen_ok,yu];cases r1
  ·rfl
  ·simp only[ak7,jO,if_false,sg,Sem.run_pure,Result.andThen_ok];simp only[Nat.mul_one]at ih;exact ih
theorem aar{t:TypeId}{ks:List KK}(hf:CH P t=some ks){l m:List AV}{xs ys:Array Value}{r:Bool}(hx:VR g lb (.agg l) (.agg xs))(hy:VR g lb (.agg m) (.agg ys))(he:jH ks l m=some r):
  P.eqGuardType P.depth t=false/\(Op.equalIn 10000 t (.agg xs) (.agg ys)).run P w= .ok r w:=by
 unfold CH at hf;split at hf
 ·cases hf
 ·rename_i oK;refine⟨by simpa using oK,?_⟩;have px:=(Wo hx).1;have py:=(Wo hy).1;split at hf
  ·rename_i fields hu;split at hf
   ·cases hf
   ·rename_i Ω;have TF:P.fieldsOf t=fields:=by simp[Program.fieldsOf,hu]
    rw[show(10000:Nat)=9998+1+1 from rfl,run_equalIn_struct w (9998+1) t xs ys (by rw[TF];exact hu) (by simpa using Ω),TF];exact RM 9998 fields.toList 0 ks l m r hf he (by simpa using px) (by simpa using py)
  ·rename_i n e hu;split at hf
   ·rename_i kk hk hs;cases hf;obtain⟨s1,-,-⟩:=o6 (P:=P) (w:=w) hs;have hlx:l.length=n/\m.length=n:=by
     have:∀(n:Nat) (l m:List AV) (r:Bool),jH (sn n kk) l m=some r->l.length=n/\m.length=n:=by
      intro n;induction n with
      |zero=>intro l m r h;cases l<;>cases m<;>simp[jH]at h;exact⟨rfl,rfl⟩
      |succ n ih=>
       intro l m r h
       rw[ak8]at h;obtain⟨_,_,l',m',_,_,rfl,rfl,_,h2,_⟩:=KS h;have:=ih _ _ _ h2;exact⟨by simp[this.1],by simp[this.2]⟩
     exact this n l m r he
    have ha:=PH (P:=P) (w:=w) (xs:=xs) (ys:=ys) 9998 hk n 0 l m r he (by
     have:=px.1
     rw[BV,fe (by omega)];exact px) (by
     have:=py.1;rw[BV,fe (by omega)];exact py)
    rw[show(10000:Nat)=9998+1+1 from rfl,Op.equalIn];simp only[Sem.run_bind,run_underlying hu,Result.andThen_ok,s1];rw[Std.Legacy.Range.forIn_eq_forIn_range'];simp only[Std.Legacy.Range.size,Nat.sub_zero,Nat.add_sub_cancel,Nat.div_one];rw[ha];cases r<;>rfl
   ·cases hf
  ·cases hf
theorem ID(aw:eO g lb ev a)(hm:aZ g own LC mem w)(hl:cj g lb own loc w)(ho:bO base own w){op:BinOp}{t ty:TypeId}{x y:Operand}(Θ:o.op= .binOp op t x y ty)
  {x' y':bh} (hx:cw x=some x') (hy:cw y=some y') {ks:List KK} (hf:CH P t=some ks) {neg:Bool} (hn:op=if neg then .neq else .eql)
  (hr:aJ ev loc mem ay o.dst (.eqs neg ks x' y')=some (v,u,m')):qY P base LC g lb own loc w a o v u m':=by
 simp only[aJ]at hr;split at hr
 ·rename_i l m e1 e2;simp only[bA,az]at hr;obtain⟨r,hr,rfl,rfl,rfl⟩:=hr;have k1:=aw _ _ hx;have k2:=aw _ _ hy;rw[e1]at k1;rw[e2]at k2;cases bF:a.eval x<;>rw[bF]at k1<;>(try(cases k1;done));cases vt:a.eval y<;>rw[vt]at k2<;>(try(cases k2;done));obtain⟨h1,h2⟩:=aar (P:=P) (w:=w) hf k1 k2 hr;refine .pure (x:= .bool (if neg then !r else r)) hm hl ho ?_ (.bool _ _);cases neg<;>simp only[jO,if_false,if_true]at hn<;>subst hn
  ·simp only[execOp,Θ,bF,vt,Sem.run_bind,run_eqGuard_agg w .eql t x y _ _ h1,Result.andThen_ok,run_eql_struct,h2];rfl
  ·simp only[execOp,Θ,bF,vt,Sem.run_bind,run_eqGuard_agg w .neq t x y _ _ h1,Result.andThen_ok,run_neq_struct,h2];rfl
 ·cases hr
theorem afT(aw:eO g lb ev a)(hm:aZ g own LC mem w)(hl:cj g lb own loc w)(ho:bO base own w){t:TypeId}{x y z:Operand}(Θ:o.op= .insert t x y z)
  :gA P bj base LC g lb own loc mem w ay ev a o ao v u m':=fun hc hr=>by
 have e1:cO P bj {o with op:= .mapUpdate t x y z}=some ao:=by rw[<-hc];simp only[cO,Θ]
 have e2:execOp a.eval o=execOp a.eval {o with op:= .mapUpdate t x y z}:=by simp only[execOp,Θ]
 have:=VS (o:= {o with op:= .mapUpdate t x y z}) aw hm hl ho rfl e1 hr;unfold qY at this⊢;rw[e2];exact this
theorem af1(hm:aZ g own LC mem w)(hl:cj g lb own loc w)(ho:bO base own w){t:TypeId}{r:Operand}(Θ:o.op= .makeMap t (some r))
  :gA P bj base LC g lb own loc mem w ay ev a o ao v u m':=fun hc hr=>by
 cases r with
 |const c=>
  cases c with
  |int k n=>
   simp only[cO,Θ]at hc
   split at hc
   ·rename_i kt et hu;cases hc;have e1:cO P bj {o with op:= .makeMap t none}=some .mkmap:=by simp only[cO]
    have e2:(execOp a.eval o).run P w=(execOp a.eval {o with op:= .makeMap t none}).run P w:=by simp only[execOp,Θ,p8,Option.map_none,Instr.makeMap,Act.eval,Sem.run_bind,run_underlying hu,Result.andThen_ok,asInt,asIntOf,Sem.run_pure]
    have:=VU (a:=a) (o:= {o with op:= .makeMap t none}) hm hl ho rfl e1 hr;unfold qY at this⊢;rw[e2];exact this
   ·cases hc
  |_=>simp only[cO,Θ]at hc;cases hc
 |_=>simp only[cO,Θ]at hc;cases hc
theorem af8(aw:eO g lb ev a)(hm:aZ g own LC mem w)(hl:cj g lb own loc w)(ho:bO base own w)(hc:cO P bj o=some ao)(yK:∀f args,ao≠ .call f args/\ao≠ .callz f args)
  (hr:aJ ev loc mem ay o.dst ao=some (v,u,m')):qY P base LC g lb own loc w a o v u m':=by
 cases Θ:o.op with
 |move x=>exact VV aw hm hl ho (.inl Θ) hc hr
 |assign x=>exact VV aw hm hl ho (.inr Θ) hc hr
 |pick c x y=>exact af5 aw hm hl ho Θ hc hr
 |alloc e=>exact afE hm hl ho Θ hc hr
 |box e x=>exact afI aw hm hl ho Θ hc hr
 |build t ps=>exact afK aw hm hl ho Θ hc hr
 |buildSlice t n ps=>exact afJ aw hm hl ho Θ hc hr
 |load t x=>exact afV aw hm hl ho Θ hc hr
 |store t x y=>exact af9 aw hm hl ho Θ hc hr
 |nilCheck x=>exact af3 aw hm hl ho Θ hc hr
 |unOp op t x=>exact af_ aw hm hl ho Θ hc hr
 |convert s d x=>exact afM aw hm hl ho Θ hc hr
 |makeInterface t x=>exact af0 aw hm hl ho Θ hc hr
 |makeFunc f x y=>exact afZ aw hm hl ho Θ hc hr
 |fieldAddr s x f=>exact afQ aw hm hl ho Θ hc hr
 |field s x f=>exact afR aw hm hl ho Θ hc hr
 |indexAddr t x i=>exact afS aw hm hl ho Θ hc hr
 |index t x i=>exact afU aw hm hl ho Θ hc hr
 |lookup t x i ok=>exact afX aw hm hl ho Θ hc hr
 |mapUpdate t x y z=>exact VS aw hm hl ho Θ hc hr
 |slice t x lo hi mx=>exact af7 aw hm hl ho Θ hc hr
 |extract x k=>exact afP aw hm hl ho Θ hc hr
 |range t x=>exact af6 aw hm hl ho Θ hc hr
 |makeMap t r=>
  cases r with
  |none=>exact VU hm hl ho Θ hc hr
  |some r=>exact af1 hm hl ho Θ hc hr
 |insert t x y z=>exact afT aw hm hl ho Θ hc hr
 |next x b=>
  cases b with
  |true=>exact af4 aw hm hl ho Θ hc hr
  |false=>simp only[cO,Θ]at hc;cases hc
 |binOp op t x y ty=>
  have AP:=hc
  simp only[cO,Θ]at hc;split at hc
  ·rename_i h1 h2 h3;cases hc;exact VP aw hm hl ho Θ h2 h3 hr
  ·rename_i h1 h2 h3;cases hc;exact VP aw hm hl ho Θ h2 h3 hr
  ·rename_i h1 h2 h3;split at hc
   ·cases hc;exact VQ aw hm hl ho Θ h2 h3 h1 (neg:=false) rfl hr
   ·cases hc;exact VQ aw hm hl ho Θ h2 h3 h1 (neg:=true) rfl hr
   ·cases hc
  ·rename_i h1 h2 h3;split at hc
   ·rename_i hf;cases hc;exact ID aw hm hl ho Θ h2 h3 hf (neg:=false) rfl hr
   ·rename_i hf;cases hc;exact ID aw hm hl ho Θ h2 h3 hf (neg:=true) rfl hr
   ·cases hc
  ·rename_i h1 h2 h3;split at hc
   ·rename_i hf;cases hc;exact ID aw hm hl ho Θ h2 h3 hf (neg:=false) rfl hr
   ·rename_i hf;cases hc;exact ID aw hm hl ho Θ h2 h3 hf (neg:=true) rfl hr
   ·cases hc
  ·rename_i h1 h2 h3;exact D' aw hm hl ho Θ h2 hc (fun v hv=>⟨⟨_,h1⟩,hv⟩) hr
  ·rename_i h1 h2 h3;exact D' aw hm hl ho Θ h2 hc (fun v hv=>⟨⟨_,h1⟩,hv⟩) hr
  ·rename_i h1 h2 h3;exact D' aw hm hl ho Θ h2 hc (fun v hv=>⟨⟨_,_,_,h1⟩,hv⟩) hr
  ·rename_i h1 h2 h3;exact D' aw hm hl ho Θ h2 hc (fun v hv=>⟨⟨_,h1⟩,hv⟩) hr
  ·rename_i h1 h2 h3;exact D' aw hm hl ho Θ h2 hc (fun v hv=>⟨⟨_,_,h1⟩,hv⟩) hr
  ·cases hc
 |makeSlice t x y=>exact af2 aw hm hl ho Θ hc hr
 |call c=>
  cases hb:c.callee with
  |value f=>
   simp only[cO,Θ,hb]at hc
   split at hc
   ·by_cases rC:K' bj o.dst=true
    ·rw[if_pos rC]at hc;split at hc
     ·cases hc;exact absurd rfl (yK _ _).1
     ·cases hc;simp[aJ]at hr
    rw[if_neg rC]at hc;by_cases mA:At bj o.dst=true
    ·rw[if_pos mA]at hc;cases hc;exact absurd rfl (yK _ _).2
    ·rw[if_neg mA]at hc;cases hc;exact absurd rfl (yK _ _).1
   ·cases hc
  |invoke r n=>simp only[cO,Θ,hb]at hc;cases hc
  |builtin b=>
   cases b<;>first
    |exact afG aw hm hl ho Θ hb hc hr
    |exact afW aw hm hl ho Θ hb hc hr
    |exact afO aw hm hl ho Θ hb hc hr
    |exact afN aw hm hl ho Θ hb hc hr
    |exact afL aw hm hl ho Θ hb hc hr
    |exact VT aw hm hl ho Θ (.inl hb) hc hr
    |exact VT aw hm hl ho Θ (.inr hb) hc hr
    |(simp only[cO,Θ,hb]at hc;cases hc)
 |_=>simp only[cO,Θ]at hc;cases hc
end
structure KM (m m':Mem):Prop where
 len:m.ε.length<=m'.ε.length
 η:∀id,id∈m.η->id∈m'.η
 cells:∀id l',m'.ε[id]?=some (.cells l')->id<m.ε.length->id∉m'.η->∀v∈l',(∃l,m.ε[id]?=some (.cells l)/\v∈l)\/lo id v=true
theorem KM.refl(m:Mem):KM m m:=⟨b_ _,fun _ h=>h,fun _ l' h _ _ _ hv=> .inl ⟨l',h,hv⟩⟩
theorem KM.trans{a b c:Mem}(h:KM a b)(k:KM b c):KM a c:= {
 len:=uO h.len k.len
 η id hid:=k.η id (h.η id hid)
 cells id l' hl hid oO v hv:=by
  rcases k.cells id l' hl (kg hid h.len) oO v hv with⟨l,h1,h2⟩|h1
  ·exact h.cells id l h1 hid (fun hn=>oO (k.η id hn)) v h2
  ·exact .inr h1}
theorem KM.push(m:Mem)(b:θ):KM m (m.push b):= {
 len:=by simp[Mem.push]
 η _ h:=h
 cells id l' hl hid _ v hv:=by simp only[Mem.push]at hl;rw[d_ hid]at hl;exact .inl ⟨l',hl,hv⟩}
theorem KM.set{m:Mem}{i:Nat}{b:θ}(hb:∀l,b≠ .cells l)(t:Bool):KM m (m.put i b t):= {
 len:=by simp[Mem.put]
 η id h:=by simp only[Mem.put];split<;>simp[h]
 cells id l' hl _ _ v hv:=by
  simp only[Mem.put,vW]at hl;split at hl
  ·split at hl
   ·cases hl;exact absurd rfl (hb _)
   ·cases hl
  ·exact .inl ⟨l',hl,hv⟩}
def KC(c:cg):Prop:=∀fv args m r m',c fv args m=some (r,m')->KM m m'
theorem Pc{lk mem p vs u m'}(h:wr lk mem p vs=some (u,m')):KM mem m':=by
 unfold wr at h;split at h
 ·split at h
  ·split at h
   ·simp only[a_,az]at h;rw[<-h.2];exact KM.refl _
   ·cases h
  ·cases h
 ·split at h
  ·rename_i id off _ l hb;split at h
   ·simp only[a_,az]at h;rw[<-h.2];refine⟨by simp[Mem.put],fun i hi=>by simp only[Mem.put];split<;>simp[hi],fun i l' hl hi oO v hv=>?_⟩;simp only[Mem.put,vW]at hl oO;split at hl
    ·rename_i yC;subst yC;split at hl
     ·simp only[a_,θ.cells.injEq]at hl;subst hl;have jJ:bn id (vs.map mem.ν)=true:=by
       cases hc:bn id (vs.map mem.ν)with
       |true=>rfl
       |false=>rw[hc]at oO;simp at oO
      unfold dk at hv;rcases dQ.1 hv with hv|hv
      ·rcases dQ.1 hv with hv|hv
       ·exact .inl ⟨l,hb,qV hv⟩
       ·right;rw[m_,dL]at jJ;exact jJ v hv
      ·exact .inl ⟨l,hb,tE hv⟩
     ·omega
    ·exact .inl ⟨l',hl,hv⟩
   ·cases h
  ·cases h
 ·cases h
theorem VH{lk mem oD dst l v u m'}(h:newVar lk mem oD dst l=some (v,u,m')):KM mem m':=by
 unfold newVar at h;split at h
 ·simp only[a_,az]at h;rw[<-h.2.2];exact KM.push _ _
 ·split at h
  ·simp only[a_,az]at h;rw[<-h.2.2];exact KM.refl _
  ·cases h
theorem XJ{mem ag sz bytes e x y v m'}(h:iq mem ag sz bytes e x y=some (v,m')):KM mem m':=by
 unfold iq at h;split at h
 ·split at h
  ·split at h
   ·simp only[a_,az]at h;rw[<-h.2];exact KM.refl _
   ·simp only[a_,az]at h;rw[<-h.2];exact KM.push _ _
   ·simp only[a_,az]at h;rw[<-h.2];exact KM.push _ _
   ·split at h
    ·split at h
     ·simp only[a_,az]at h;rw[<-h.2];exact KM.set (fun _ h=>by cases h) _
     ·cases h
    ·cases h
   ·cases h
  ·cases h
 ·cases h
theorem XI{mem ag sz bytes x y v m'}(h:vZ mem ag sz bytes x y=some (v,m')):KM mem m':=by
 unfold vZ at h;split at h
 ·split at h
  ·split at h
   ·simp only[a_,az]at h;rw[<-h.2];exact KM.refl _
   ·simp only[a_,az]at h;rw[<-h.2];exact KM.push _ _
  ·cases h
 ·cases h
theorem aaE{mem v v' m'}(h:fz mem v=some (v',m')):KM mem m':=by
 unfold fz at h;split at h
 ·simp only[a_,az]at h;rw[<-h.2];exact KM.refl _
 ·split at h
  ·split at h
   ·simp only[a_,az]at h;rw[<-h.2];exact KM.set (fun _ h=>by cases h) _
   ·cases h
  ·cases h
 ·cases h
theorem XY{ev lk mem dst o v u m'}{c:cg}(hc:KC c)(h:aJ ev lk mem c dst o=some (v,u,m')):KM mem m':=by
 cases o<;>simp only[aJ]at h
 case bad=>cases h
 case alloc=>exact VH h
 case box=>
  split at h
  ·exact VH h
  ·cases h
 case st=>
  split at h
  ·simp only[bA,az,Prod.exists]at h;obtain⟨_,_,h1,_,_,rfl⟩:=h;exact Pc h1
  ·cases h
 case mapup=>
  (repeat' split at h)<;>first|(cases h;done)|skip
  simp only[bA,az]at h;obtain⟨_,_,_,_,rfl⟩:=h;exact KM.set (fun _ h=>by cases h) _
 case del=>
  (repeat' split at h)<;>first|(cases h;done)|skip
  simp only[bA,az]at h;obtain⟨_,_,_,_,rfl⟩:=h;exact KM.set (fun _ h=>by cases h) _
 case abld=>simp only[a_,az]at h;rw[<-h.2.2];exact KM.push _ _
 case mkmap=>simp only[a_,az]at h;rw[<-h.2.2];exact KM.push _ _
 case mkslc=>
  (repeat' split at h)<;>first|(cases h;done)|skip
  simp only[a_,az]at h;rw[<-h.2.2];exact KM.push _ _
 case cpy=>
  (repeat' split at h)<;>first|(cases h;done)|skip
  simp only[bA,az,Prod.exists]at h;obtain⟨_,_,h1,_,_,rfl⟩:=h;exact Pc h1
 case clr=>
  split at h
  ·simp only[a_,az]at h;rw[<-h.2.2];exact KM.refl _
  ·split at h
   ·simp only[a_,az]at h;rw[<-h.2.2];exact KM.refl _
   ·simp only[bA,az,Prod.exists]at h;obtain⟨_,_,h1,_,_,rfl⟩:=h;exact Pc h1
  ·cases h
 case call=>
  simp only[bA,az,Prod.exists]at h
  obtain⟨_,_,h1,_,_,rfl⟩:=h;exact hc _ _ _ _ _ h1
 case app=>
  simp only[bA,az,Prod.exists]at h
  obtain⟨_,_,h1,_,_,rfl⟩:=h;exact XJ h1
 case appm=>
  simp only[bA,az,Prod.exists]at h
  obtain⟨_,_,h1,_,_,rfl⟩:=h;exact XI h1
 case callz=>
  split at h
  ·rename_i h0;simp only[bA,az,Prod.exists]at h;obtain⟨_,_,h1,_,_,rfl⟩:=h;exact(hc _ _ _ _ _ h0).trans (aaE h1)
  ·cases h
 all_goals
  (repeat' split at h)<;>first
   |(cases h;done)
   |(simp only[a_,az]at h;obtain⟨_,_,rfl⟩:=h;exact KM.refl _)
   |(simp only[bA,az]at h;obtain⟨_,_,_,_,rfl⟩:=h;exact KM.refl _)
   |(simp only[bA]at h;obtain⟨_,_,h⟩:=h;(repeat' split at h)<;>(simp only[az]at h;obtain⟨_,_,rfl⟩:=h;exact KM.refl _))
theorem X6{gl o s s'}{c:cg}(hc:KC c)(h:dR gl c o s=some s'):KM s.mem s'.mem:=by
 unfold dR at h;split at h
 ·cases h
 ·split at h
  ·rename_i he;cases h;exact XY hc he
  ·cases h
 ·cases h;exact KM.refl _
theorem PB{gl l s s'}{c:cg}(hc:KC c)(h:ef gl c l s=some s'):KM s.mem s'.mem:=by
 induction l generalizing s with
 |nil=>cases h;exact KM.refl _
 |cons o l ih=>
  simp only[ef]at h
  split at h
  ·rename_i he;exact(X6 hc he).trans (ih h)
  ·cases h
theorem JK{gl l s tr}{c:cg}(h:eF gl c l s=some tr):tr.length=l.length+1/\tr[0]?=some s/\tr.getLast?=ef gl c l s∧
  ∀i (hi:i<l.length),∃si W1,tr[i]?=some si/\tr[i+1]?=some W1/\dR gl c l[i] si=some W1:=by
 induction l generalizing s tr with
 |nil=>cases h;exact⟨rfl,rfl,rfl,fun i hi=>by simp at hi⟩
 |cons o l ih=>
  simp only[eF]at h
  split at h
  ·rename_i s' he;simp only[bA]at h;obtain⟨tr',h1,rfl⟩:=h;obtain⟨k1,k2,k3,k4⟩:=ih h1;refine⟨by simp[k1],rfl,?_,fun i hi=>?_⟩
   ·simp only[ef,he,<-k3];cases tr' with
    |nil=>simp at k1
    |cons a t=>simp
   ·cases i with
    |zero=>exact⟨s,s',rfl,by simpa using k2,he⟩
    |succ i=>simpa using k4 i (by simpa using hi)
  ·cases h
theorem XP{gl l cf af s s'}{c:cg}(h:ff gl c l cf af s=some s'):ef gl c l s=some s':=by
 unfold ff at h;split at h
 ·rename_i tr A9;split at h
  ·rw[<-(JK A9).2.2.1];exact h
  ·cases h
 ·cases h
theorem WW{n:Nat}:∀(t:List Nat) (bs:List θ) (id:Nat),id∉t->(lF n t bs)[id]?=bs[id]?
 |[],_,_,_=>rfl
 |i::t,bs,id,h=>by
  simp only[cB,not_or]at h;simp only[lF];rw[WW t _ id h.2];split
  ·rw[List.getElem?_set_ne (fun e=>h.1 e.symm)]
  ·rfl
theorem WV{n:Nat}:∀(t:List Nat) (bs:List θ),(lF n t bs).length=bs.length
 |[],_=>rfl
 |i::t,bs=>by simp only[lF];rw[WV t];split<;>simp
theorem JO{m0 m:Mem}(h:m0.ε.length<=m.ε.length):(m0.back m).ε.length=m0.ε.length:=by simp only[Mem.back,WV,lM];omega
theorem PN{m0 m:Mem}(hlen:m0.ε.length<=m.ε.length)
  (hc:∀id l',m.ε[id]?=some (.cells l')->id<m0.ε.length->id∉m.η->∀v∈l',(∃l,m0.ε[id]?=some (.cells l)/\v∈l)\/lo id v=true):KM m0 (m0.back m):= {
 len:=by rw[JO hlen];exact b_ _
 η id h:=by simp only[Mem.back];exact zR _ h
 cells id l' hl hid oO v hv:=by
  simp only[Mem.back]at hl oO;by_cases ht:id∈m.η
  ·have eA:bn id l'=true:=by
    cases hc:bn id l' with
    |true=>rfl
    |false=>
     exfalso;apply oO
     refine BZ _ (zS.2 ⟨ht,?_⟩);rw[hl];simp[θ.clean,hc]
   rw[m_,dL]at eA;exact .inr (eA v hv)
  ·rw[WW _ _ _ ht,BX]at hl;rw[if_pos hid]at hl;exact hc id l' hl hid ht v hv}
def Jy(lp:pd):Prop:=∀b:St->Option (Ex×St),(∀s e s',b s=some (e,s')->KM s.mem s'.mem)->∀s e s',lp b s=some (e,s')->KM s.mem s'.mem
theorem E2(n:Nat):Jy (fJ n):=by
 intro b hb s e s' h;induction n generalizing s with
 |zero=>simp[fJ]at h
 |succ n ih=>
  simp only[fJ]at h
  split at h
  ·rename_i he;exact(hb _ _ _ he).trans (ih _ h)
  ·exact hb _ _ _ h
theorem aho{d:Nat}{s s':St}(h:Eg d s=some s'):KM s.mem s'.mem:=by
 unfold Eg at h
 (repeat' split at h)<;>first|(cases h;done)|(cases h;exact KM.push _ _)
theorem Wm:∀{l:List Nat} {s s':St},Bv l s=some s'->KM s.mem s'.mem
 |[],s,s',h=>by cases h;exact KM.refl _
 |d::l,s,s',h=>by
  simp only[Bv]at h;split at h
  ·rename_i h1;exact(aho h1).trans (Wm h)
  ·cases h
theorem x9{gl}{c:cg}{lp:pd}(hc:KC c)(hl:Jy lp)(a:AC):∀s e s',exec gl c lp a s=some (e,s')->KM s.mem s'.mem:=by
 induction a with
 |skip=>intro s e s' h;cases h;exact KM.refl _
 |ops l=>
  intro s e s' h
  simp only[exec,bA,az]at h;obtain⟨_,h1,_,rfl⟩:=h;exact PB hc h1
 |draw l cf af=>
  intro s e s' h
  simp only[exec,bA,az]at h;obtain⟨_,h1,_,rfl⟩:=h;exact PB hc (XP h1)
 |seq a b dJ gm=>
  intro s e s' h
  simp only[exec]at h;split at h
  ·rename_i he;exact(dJ _ _ _ he).trans (gm _ _ _ h)
  ·exact dJ _ _ _ h
 |cond x a b dJ gm=>
  intro s e s' h
  simp only[exec]at h;split at h
  ·split at h
   ·exact dJ _ _ _ h
   ·exact gm _ _ _ h
  ·cases h
 |block id a dJ=>
  intro s e s' h
  simp only[exec]at h;split at h
  ·rename_i he;split at h<;>(cases h;exact dJ _ _ _ he)
  ·exact dJ _ _ _ h
 |loop a dJ=>intro s e s' h;exact hl _ dJ _ _ _ h
 |exit id=>intro s e s' h;cases h;exact KM.refl _
 |ret=>intro s e s' h;cases h;exact KM.refl _
 |xy f ps fK body _ _=>
  intro s e s' h
  simp only[exec]at h;split at h
  ·rename_i r m iJ;obtain⟨fv,_,iJ⟩:=B0.1 iJ;have hk:=hc _ _ _ _ _ iJ;have wN:KM s.mem (s.mem.back m):=by
    have hlen:=hk.len;simp only[List.length_append,cN,eT]at hlen;refine PN (by omega) (fun id l' hl hid oO v hv=>?_);rcases hk.cells id l' hl (by simp;omega) oO v hv with⟨l,h1,h2⟩|h1
    ·rw[d_ hid]at h1;exact .inl ⟨l,h1,h2⟩
    ·exact .inr h1
   split at h<;>first|(cases h;exact wN)|cases h
  ·cases h
 |Ef ds=>
  intro s e s' h
  simp only[exec,bA,az]at h;obtain⟨_,h1,_,rfl⟩:=h;exact Wm h1
 |bad=>intro s e s' h;cases h
theorem BC(m:Mem)(l:Nat)(st:LS):KM m (m.kM l st):=by
 unfold Mem.kM;split
 ·exact KM.set (t:=true) (fun _ h=>by cases h)
 ·exact KM.refl _
theorem ah2{gl}{c:cg}{lp:pd}(hc:KC c)(hl:Jy lp){l args mem r m'}(h:round (exec gl c lp) l args mem=some (r,m')):KM mem m':=by
 unfold round at h;split at h
 ·split at h
  ·split at h
   ·rename_i he;have h1:=x9 hc hl _ _ _ _ he;split at h
    ·split at h
     ·rename_i lT;have h2:=x9 hc hl _ _ _ _ lT;split at h
      ·cases h;exact h1.trans ((BC _ _ _).trans (h2.trans (BC _ _ _)))
      ·cases h
     ·rename_i lT;have h2:=x9 hc hl _ _ _ _ lT;split at h
      ·cases h;exact h1.trans ((BC _ _ _).trans (h2.trans (BC _ _ _)))
      ·cases h
     ·rename_i lT;have h2:=x9 hc hl _ _ _ _ lT;split at h
      ·cases h;exact h1.trans ((BC _ _ _).trans (h2.trans (BC _ _ _)))
      ·cases h
     ·cases h
    ·cases h
   ·cases h
  ·cases h
 ·cases h
theorem RZ{g:AF}{k:Bool}{m0:Mem}{ex:Ex}{s:St}{r m'}(h:fin g k m0 (some (ex,s))=some (r,m'))(hk:KM {ε:=m0.ε,η:=[]} s.mem):KM m0 m':=by
 have key:∀r m',(match cF s g.results with
   |some l=>if k then some (exp s.mem.ε.length true (cK l),({ε:=s.mem.ε,η:=m0.η++s.mem.η}:Mem))
    else some (aQ s.mem.ε m0.ε.length 8 (cK l),m0.back s.mem)
   |none=>none)=some (r,m')->KM m0 m':=by
  intro r m' h;split at h
  ·split at h
   ·simp only[a_,az]at h;rw[<-h.2];exact⟨hk.len,fun id hid=>zR _ hid,fun id l' hl hid oO v hv=>hk.cells id l' hl hid (fun hn=>oO (BZ _ hn)) v hv⟩
   ·simp only[a_,az]at h;rw[<-h.2];exact PN hk.len (fun id l' hl hid oO v hv=>hk.cells id l' hl hid oO v hv)
  ·cases h
 cases ex with
 |exit id=>simp[fin]at h
 |normal=>exact key r m' h
 |ret=>exact key r m' h
theorem Kv(C:iF)(hp:∀f p,C.gM f=some p->∀args m r m',p args m=some (r,m')->KM m m')(n:Nat):KC (cv C n):=by
 induction n with
 |zero=>intro fv args m r m' h;simp[cv]at h
 |succ n ih=>
  intro fv args m r m' h
  simp only[cv,body]at h;split at h
  ·split at h
   ·rename_i p hpp;exact hp _ _ hpp _ _ _ _ h
   ·split at h
    ·rename_i g hg;generalize he:exec C.gl (cv C n) (fJ n) g.code _=x at h;cases x with
     |none=>simp[fin]at h
     |some x=>
      obtain⟨ex,s⟩:=x
      exact RZ h (x9 ih (E2 n) _ _ _ _ he)
    ·cases h
  ·split at h
   ·rename_i g hg;generalize he:exec C.gl (cv C n) (fJ n) g.code _=x at h;cases x with
    |none=>simp[fin]at h
    |some x=>
     obtain⟨ex,s⟩:=x
     exact RZ h (x9 ih (E2 n) _ _ _ _ he)
   ·cases h
  ·exact ah2 ih (E2 n) h
  ·cases h
section
variable(P:Program)(bj:Nat->Bool)(N:Nat)
def J9(ops:Array Oper):Option (Nat×Bool)->Option (Option (Nat×Bool))
 |none=>some none
 |some (j,want)=>match(ops[j]?).bind (·.dst)with
  |some d=>if d<N then some (some (d,want))else none
  |none=>none
def KA:Option Nat->Bool
 |none=>true
 |some d=>decide (d<N)
def Fg(ops:Array Oper)(o:Oper):Option aN:=match J9 N ops o.guard with
 |some gd=>if KA N o.dst then some {dst:=o.dst,op:=Rj P bj o,guard:=gd}else none
 |none=>none
def tL(ops:Array Oper):List Oper->Option (List aN)
 |[]=>some []
 |o::l=>match Fg P bj N ops o,tL ops l with
  |some x,some m=>some (x::m)
  |_,_=>none
end
def mM(g:Gh)(gl:Nat->AV):Prop:=∀n,VR g bP (gl n) (.pointer (some ⟨n,0,none⟩))
def zf(r:Nat):Deferred:= {target:= .collected r,args:= #[]}
def Marks(cQ:Nat)(own:OW)(w:World)(ds:List Deferred):Prop:=
 cQ<=w.heap.size/\∃ms:List Nat,ms.Nodup/\ds=ms.map zf/\∀r∈ms,cQ<=r/\r<w.heap.size/\own r=none/\w.heap[r]?=some (.deferred (some []))
theorem Marks.nil{cQ:Nat}{own:OW}{w:World}(h:cQ<=w.heap.size):Marks cQ own w []:=⟨h,[],List.nodup_nil,rfl,fun r hr=>by cases hr⟩
theorem Marks.ba{cQ:Nat}{g g':Gh}{own aD:OW}{w w':World}{ds:List Deferred}(h:Marks cQ own w ds)(hs:ep g own w g' aD w'):Marks cQ aD w' ds:=by obtain⟨h0,ms,h1,h2,h3⟩:=h;refine⟨uO h0 hs.size,ms,h1,h2,fun r hr=>?_⟩;obtain⟨k1,k2,k3,k4⟩:=h3 r hr;exact⟨k1,kg k2 hs.size,hs.jD r k2 k3,(hs.ba r k2 k3).trans k4⟩
structure SR (gl:Nat->AV) (base N:Nat) (LC:eS) (cQ:Nat) (g:Gh) (lb:LB) (own:OW) (s:St) (a:Act) (w:World):Prop where
 env:∀t,VR g lb (br s.env t) (a.tmps.getD t undef)
 gl:mM g gl
 size:N<=a.tmps.size
 defers:Marks cQ own w a.defers
 mem:aZ g own LC s.mem w
 loc:cj g lb own (bR s.loc) w
 own:bO base own w
def eo(own:OW):OW:=fun b=>match own b with
 |some (.m id)=>some (.m id)
 |_=>none
def tB(F:Fence)(n:Nat)(P:Program)(fx:Value)(bI:Array Value)(w:World)(R:Value->World->Prop):Prop:=
 (∃(f:FuncId) (as:Array Value),(do let d<-Deferred.ofValue fx bI;invoke d.target d.args:Sem Next).run P w= .ok (.enter f as) w/\CallsIn F n P f as w fun e w'=>∃x,e= .returned x/\R x w')∨
 (∃x w',(do let d<-Deferred.ofValue fx bI;invoke d.target d.args:Sem Next).run P w= .ok (.value x) w'/\R x w')∨
 (∃(l:Nat) (f:FuncId) (tmps:Array Value) (assign body:Code),(do let d<-Deferred.ofValue fx bI;invoke d.target d.args:Sem Next).run P w= .ok (.round l f tmps assign body) w∧
  RoundIn F n P l f tmps assign body w fun e w'=>∃x,e= .returned x/\R x w')
def lJ(base:Nat)(LC:eS)(gl:Nat->AV)(g:Gh)(own:OW)(w:World)(r:AV)(m':Mem)(x:Value)(w':World):Prop:=
 ∃(g':Gh) (aD:OW),ep g (eo own) w g' aD w'/\aZ g' aD LC m' w'/\VR g' bP r x/\bO base aD w'/\(∀b d,aD b≠some (.l d))/\mM g' gl
def np(F:Fence)(P:Program)(base:Nat)(LC:eS)(gl:Nat->AV)(ay:cg):Prop:=
 ∀(n:Nat) (g:Gh) (lb:LB) (own:OW) (mem:Mem) (w:World) (fv:AV) (args:List AV) (r:AV) (m':Mem) (fx:Value) (bI:Array Value),
  aZ g own LC mem w->bO base own w->mM g gl->VR g lb fv fx->PW (VR g lb) args bI.toList->ay fv args mem=some (r,m')→
  tB F n P fx bI w (lJ base LC gl g own w r m')
section
variable{F:Fence}{n:Nat}{P:Program}{bj:Nat->Bool}{N:Nat}{gl:Nat->AV}{base:Nat}{LC:eS}{cQ:Nat}{g:Gh}{lb:LB}{own:OW}{s s':St}{a:Act}{w:World}{ay:cg}
variable{ops:Array Oper}{Q:Exit->Act->World->Prop}
theorem mM.mono{g':Gh}(h:mM g gl)(hs:g.sub g'):mM g' gl:=fun n=>(h n).sub hs
theorem SR.ev(h:SR gl base N LC cQ g lb own s a w):eO g lb (dF gl s.env) a:=by
 intro x x' hx;cases x with
 |tmp t=>cases hx;exact h.env t
 |const v=>
  simp only[cw,bA]at hx
  obtain⟨av,LW,rfl⟩:=hx;exact JF LW
 |global i=>
  cases hx
  exact(h.gl i).mono g.eM fun _ _ _ h=>by cases h
 |func f=>
  cases hx
  exact .fn _ _ _ _ _ _ _ rfl rfl rfl (fun i hi=>by simp at hi) (fun i hi=>by simp at hi)
theorem aaH(a:Act)(dst:Option Nat)(v:Value)(hd:∀d,dst=some d->d<a.tmps.size)(t:Nat):
  (a.put dst v).tmps.getD t undef=if dst=some t then v else a.tmps.getD t undef:=by
 cases dst with
 |none=>simp[Act.put]
 |some d=>
  have:=hd d rfl
  simp only[Act.put,ob,ak9,a_];by_cases h:d=t
  ·subst h;simp[this]
  ·simp[h]
theorem u0(env:List AV)(dst:Option Nat)(v:AV)(t:Nat):br (fE env dst v) t=if dst=some t then v else br env t:=by
 cases dst with
 |none=>simp[fE]
 |some d=>simp[fE,fM]
theorem OD(a:Act)(dst:Option Nat)(v:Value):(a.put dst v).tmps.size=a.tmps.size:=by cases dst<;>simp[Act.put]
theorem ahr(a:Act)(dst:Option Nat)(v:Value):(a.put dst v).defers=a.defers:=by cases dst<;>rfl
theorem SR.after(h:SR gl base N LC cQ g lb own s a w){dst:Option Nat}(hd:KA N dst=true){v:AV}{u:kB}{m':Mem}{x:Value}{w':World}(hp:gX base LC g lb own (bR s.loc) w v u m' x w'):
  ∃g' lb' aD,ep g own w g' aD w'/\SR gl base N LC cQ g' lb' aD {env:=fE s.env dst v,loc:=eR s.loc u,mem:=m'} (a.put dst x) w':=by
 obtain⟨g',lb',aD,h1,h2,h3,h4,h5,h6⟩:=hp;have kp:∀d,dst=some d->d<a.tmps.size:=by
  rintro d rfl
  simp only[KA,decide_eq_true_eq]at hd;exact kg hd h.size
 refine⟨g',lb',aD,h1,fun t=>?_,h.gl.mono h1.sub,by rw[OD];exact h.size,by rw[ahr];exact h.defers.ba h1,h4,by rw[NO];exact h5,h6⟩;rw[aaH a dst x kp,u0];split
 ·exact h3
 ·exact(h.env t).mono h1.sub h2
theorem Xr(h:SR gl base N LC cQ g lb own s a w){o:Oper}{gd:Option (Nat×Bool)}(hg:J9 N ops o.guard=some gd){b:Bool}(hw:e_ s.env gd=some b):
  Region.wanted o (yielded ops a.tmps)=b:=by
 unfold Region.wanted;cases oK:o.guard with
 |none=>
  rw[oK]at hg;cases hg
  cases hw;rfl
 |some jw=>
  obtain⟨j,want⟩:=jw
  rw[oK]at hg;simp only[J9]at hg;split at hg
  ·rename_i d hd;split at hg
   ·rename_i hdn;cases hg;simp only[e_]at hw;have ψ:d<a.tmps.size:=kg hdn h.size;have hv:=h.env d;have mB:a.tmps[d]?=some (a.tmps.getD d undef):=by simp[ob,ψ]
    simp only[yielded,hd,Option.bind_some,mB];generalize a.tmps.getD d undef=x at hv;split at hw
    ·rename_i b' he;rw[he]at hv;cases hv;cases hw;rfl
    ·rename_i he;rw[he]at hv;cases hv;cases hw;rfl
    ·cases hw
   ·cases hg
  ·cases hg
theorem uw{b:Nat}{o:Own}(h:eo own b=some o):own b=some o/\∃id,o= .m id:=by
 unfold eo at h;split at h
 ·rename_i id he;cases h;exact⟨he,id,rfl⟩
 ·cases h
theorem Fi(hs:SR gl base N LC cQ g lb own s a w){r:AV}{m':Mem}{x:Value}{w':World}(h:lJ base LC gl g own w r m' x w'):gX base LC g lb own (bR s.loc) w r none m' x w':=by
 obtain⟨g',aD,h1,h2,h3,h4,h5,h6⟩:=h;let uu:OW:=fun b=>match own b with
  |some (.l d)=>some (.l d)
  |_=>aD b
 have hl:∀b d,own b=some (.l d)->b<w.heap.size/\eo own b=none:=fun b d hb=>⟨(hs.own.ge b _ hb).2,by simp[eo,hb]⟩;have abT:∀b id,aD b=some (.m id)->uu b=aD b:=by
  intro b id hb;simp only[uu];split
  ·rename_i d hd;obtain⟨k1,k2⟩:=hl b d hd;rw[h1.jD b k1 k2]at hb;cases hb
  ·rfl
 have Dp:∀b,own b=none->eo own b=none:=fun b hb=>by simp[eo,hb]
 refine⟨g',lb,uu,⟨h1.sub,h1.size,h1.os,h1.tape,h1.output,fun b hb ho=>h1.ba b hb (Dp b ho),fun b hb ho=>?_,fun b hb ho=>h1.im b hb (Dp b ho)⟩,fun _ _ _ h=>h,
  h3.mono g'.eM (fun _ _ _ h=>by cases h),?_,?_,⟨fun b o hb=>?_,h4.base⟩⟩
 ·simp only[uu,ho];exact h1.jD b hb (Dp b ho)
 ·exact h2.ba g'.eM (fun _ h=>h) (fun _ _ h=>h) (fun id b hb=>⟨abT b id hb,rfl,fun _=>rfl⟩) h2.im
 ·exact hs.loc.ba h1.sub fun d b hb=>by obtain⟨k1,k2⟩:=hl b d hb;exact⟨by simp[uu,hb],h1.ba b k1 k2,h1.im b k1 k2⟩
 ·simp only[uu]at hb;split at hb
  ·rename_i d hd;have:=hs.own.ge b _ hd;exact⟨this.1,kg this.2 h1.size⟩
  ·exact h4.ge b o hb
theorem Zw{o:Oper}(h:cO P bj o≠none):∀c,o.op≠ .defer c:=by intro c hc;apply h;simp only[cO,hc]
def AO.Ck:AO->Option (bh×List bh)
 | .call f l=>some (f,l)
 | .callz f l=>some (f,l)
 |_=>none
theorem Zv{o:Oper}{f':bh}{args':List bh}{ao:AO}(nH:ao.Ck=some (f',args'))(cC:cO P bj o=some ao):
  ∃c f,o.op= .call c/\c.callee= .value f/\(cw f=some f'\/∃k,f= .func k/\f'= .c (.fn (.methodOf k "") [] []))/\v8 c.args.toList=some args':=by
 have hm:∀{α:Type} {x:Option α} {h:α->AO},x.map h=some ao->(∀y,(h y).Ck=none)->False:=fun hx hn=>by simp only[bA]at hx;obtain⟨y,_,rfl⟩:=hx;rw[hn y]at nH;cases nH
 have hs:∀{x:AO},some x=some ao->x.Ck=none->False:=fun hx hn=>by cases hx;rw[hn]at nH;cases nH
 cases Θ:o.op with
 |call c=>
  simp only[cO,Θ]at cC
  cases rz:c.callee with
  |value f=>
   rw[rz]at cC
   dsimp only at cC;split at cC
   ·rename_i h1 h2;by_cases rC:K' bj o.dst=true
    ·rw[if_pos rC]at cC;split at cC
     ·cases cC;cases nH;exact⟨c,_,rfl,rz,.inr ⟨_,rfl,rfl⟩,h2⟩
     ·cases cC;cases nH
    rw[if_neg rC]at cC;by_cases mA:At bj o.dst=true
    ·rw[if_pos mA]at cC;cases cC;cases nH;exact⟨c,f,rfl,rz,.inl h1,h2⟩
    ·rw[if_neg mA]at cC;cases cC;cases nH;exact⟨c,f,rfl,rz,.inl h1,h2⟩
   ·cases cC
  |invoke r n=>rw[rz]at cC;cases cC
  |builtin b=>
   exfalso
   rw[rz]at cC;cases b<;>dsimp only at cC<;>(try(cases cC;done))<;>(repeat' split at cC)<;>first|(cases cC;done)|exact hs cC rfl|exact hm cC (fun _=>rfl)
 |makeFunc fn x y=>
  exfalso
  cases fn<;>simp only[cO,Θ]at cC<;>(repeat' split at cC)<;>first|(cases cC;done)|exact hs cC rfl
 |makeMap t r=>
  exfalso
  cases r with
  |none=>simp only[cO,Θ]at cC;first|(cases cC;done)|exact hs cC rfl
  |some r=>
   cases r with
   |const c=>
    cases c with
    |int k n=>
     simp only[cO,Θ]at cC
     (repeat' split at cC)<;>first|(cases cC;done)|exact hs cC rfl
    |_=>simp only[cO,Θ]at cC;first|(cases cC;done)|exact hs cC rfl
   |_=>simp only[cO,Θ]at cC;first|(cases cC;done)|exact hs cC rfl
 |next x b=>exfalso;cases b<;>simp only[cO,Θ]at cC<;>first|(cases cC;done)|exact hs cC rfl|exact hm cC (fun _=>rfl)
 |binOp op t x y ty=>
  exfalso
  have hn:∀k x' y',uU k op x' y'≠some ao:=fun k x' y' h=>by
   unfold uU at h
   (repeat' split at h)<;>first|(cases h;done)|exact hs h rfl
  simp only[cO,Θ]at cC
  (repeat' split at cC)<;>first|(cases cC;done)|exact hs cC rfl|exact hn _ _ _ cC
 |_=>
  exfalso
  simp only[cO,Θ]at cC
  (repeat' split at cC)<;>first|(cases cC;done)|exact hs cC rfl|exact hm cC (fun _=>rfl)
theorem Ag(s:Nat):∀(m:Nat) (l:List AV),(chunk s m l).length=m:=by
 intro m;induction m with
 |zero=>intro l;rfl
 |succ m ih=>intro l;simp[chunk,ih]
theorem Fo(s:Nat):∀(m:Nat) (l:List AV) (i:Nat) (h:i<(chunk s m l).length),(chunk s m l)[i]= .agg ((l.drop (i*s)).take s):=by
 intro m;induction m with
 |zero=>intro l i h;simp[chunk]at h
 |succ m ih=>
  intro l i h
  cases i with
  |zero=>simp[chunk]
  |succ i=>
   simp only[chunk,pX]
   rw[ih];rw[o9,kA,ak4,zU]
theorem tB.mono{F:Fence}{n:Nat}{fx:Value}{bI:Array Value}{w:World}{R R':Value->World->Prop}(h:tB F n P fx bI w R)(k:∀x w',R x w'->R' x w'):tB F n P fx bI w R':=by
 rcases h with⟨f,as,h1,h2⟩|⟨x,w',h1,h2⟩|⟨l,f,tmps,fK,v7,h1,h2⟩
 ·exact .inl ⟨f,as,h1,h2.mono fun e w' ⟨x,h3,h4⟩=>⟨x,h3,k _ _ h4⟩⟩
 ·exact .inr (.inl ⟨x,w',h1,k _ _ h2⟩)
 ·exact .inr (.inr ⟨l,f,tmps,fK,v7,h1,h2.mono fun e w' ⟨x,h3,h4⟩=>⟨x,h3,k _ _ h4⟩⟩)
theorem lJ.fz{r r2:AV}{m1 m2:Mem}{x:Value}{w':World}(h:lJ base LC gl g own w r m1 x w')(hz:Δ.fz m1 r=some (r2,m2)):lJ base LC gl g own w r2 m2 x w':=by
 obtain⟨g',aD,h1,h2,h3,h4,h5,h6⟩:=h;unfold Δ.fz at hz;split at hz
 ·cases hz;exact⟨g',aD,h1,h2,h3,h4,h5,h6⟩
 ·rename_i kd id off n cp;split at hz
  ·rename_i l hl;split at hz
   ·rename_i hc;obtain⟨sO,rJ⟩:=hc;simp only[a_,az]at hz;obtain⟨rfl,rfl⟩:=hz;cases h3 with
    |sl _ _ _ _ _ _ cq b hc ew hb=>
    obtain⟨b2,k1,k2,k3,a,e,k4,k5,k6,k7⟩:=h2.blk id _ hl
    rw[hb]at k1;cases k1;let g2:Gh:= {g' with im:=fun b' o=>if b'=b then a[o]? else g'.im b' o};let pQ:OW:=fun b'=>if b'=b then none else aD b';have c_:g'.sub g2:=⟨fun b' o y hy=>by
     simp only[g2]
     split
     ·rename_i he;subst he;rw[k3]at hy;cases hy
     ·exact hy,fun _ _ h=>h,fun _ _ _ h=>h⟩
    have mU:∀o y,a[o]?=some y->w'.cell? ⟨b,o,none⟩=some y:=fun o y hy=>by simp[sq,k4,hy]
    have Tv:∀b',b'<w.heap.size->eo own b'=none->b'≠b:=fun b' aW hn he=>by subst he;rw[h1.jD _ aW hn]at k2;cases k2
    refine⟨g2,pQ,⟨Gh.BH h1.sub c_,h1.size,h1.os,h1.tape,h1.output,h1.ba,fun b' aW hn=>?_,fun b' aW hn o=>?_⟩,?_,?_,⟨fun b' o aW=>?_,h4.base⟩,fun b' d aW=>?_,h6.mono c_⟩
    ·simp only[pQ];split
     ·rfl
     ·exact h1.jD b' aW hn
    ·simp only[g2];rw[if_neg (Tv b' aW hn)];exact h1.im b' aW hn o
    ·have hid:id<m1.ε.length:=(fI.1 hl).1;refine h2.EJ hid c_ (fun _ h=>h) (fun _ _ _ h=>h) (fun mF b' φ aW=>?_) trivial (fun b' o y hy=>?_)
     ·have ry:b'≠b:=by rintro rfl;rw[k2]at aW;cases aW;exact φ rfl
      exact⟨by simp[pQ,ry],rfl,fun o=>by simp[g2,ry]⟩
     ·simp only[g2]at hy;split at hy
      ·rename_i he;subst he;exact mU o y hy
      ·exact h2.im b' o y hy
    ·have jr:∀q (h:q<a.size),g2.im b q=some a[q]/\a[q].oneCell'=true:=fun q h=>⟨by simp[g2,h],k7 q h⟩;by_cases oN:kd=0
     ·subst oN;have rJ:=rJ rfl;have abg:off+n<=l.length:=by have e0:ak_ 0 1=1:=rfl;rw[e0]at sO;omega
      simp only[dL]at rJ;have tT:∀v,v∈(l.drop off).take n->v.cells=[v]:=fun v hv=>by have:=rJ v hv;cases v<;>simp_all [AV.cells,AV.one]
      rw[if_pos rfl];refine .list _ .any _ b off 1 n cq (fun i _=>a.getD (off+i) undef) (by simp;omega) (by omega) trivial (fun e he=>by rw[tT e he];rfl) (fun i ae j hj=>?_) (fun i ae j hj=>?_)
      ·obtain rfl:j=0:=by omega
       have ψ:off+i<a.size:=by omega
       have:=jr (off+i) ψ;simpa[ob,ψ]using this
      ·simp at ae;have ψ:off+i<a.size:=by omega
       have Γ:l[off+i]'(by omega)∈(l.drop off).take n:=by rw[o_];exact⟨i,by simp;omega,by simp⟩
       have e1:(((l.drop off).take n)[i]'(by simp;omega))=l[off+i]'(by omega):=by simp
       have e2:=tT _ Γ;have Mn:j=0:=by have:=hj;simp only[e1,e2,cN,eT]at this;omega
       subst Mn;have:=(k6 (off+i) (by omega) ψ).sub c_;simp only[e1,e2,kz];simpa[ob,ψ]using this
     ·have jK:ak_ kd 1=kd:=ak' (by omega);rw[jK]at sO;rw[if_neg oN];have hbound:∀i j,i<n->j<kd->off+(i*kd+j)<l.length:=by intro i j hi hj;have:=DQ hi hj;omega
      refine .list _ .any _ b off kd n cq (fun i j=>a.getD (off+(i*kd+j)) undef) (Ag _ _ _) (by omega) trivial (fun e he=>?_) (fun i ae j hj=>?_) (fun i ae j hj=>?_)
      ·obtain⟨i,ja,rfl⟩:=o_.1 he;rw[Fo];simp only[AV.cells,lM,lL];rw[Ag]at ja;have h5:(i+1)*kd<=n*kd:=nu _ ja;rw[kA]at h5;omega
      ·have ψ:off+(i*kd+j)<a.size:=kg (hbound i j ae hj) k5;have:=jr _ ψ;simpa[ob,ψ]using this
      ·have ja:i<n:=by rw[Ag]at ae;exact ae
       have e0:=Fo kd n (l.drop off) i ae;have tZ:j<kd:=by have:=hj;rw[e0]at this;simp only[AV.cells,lM,lL]at this;omega
       have ψ:off+(i*kd+j)<a.size:=kg (hbound i j ja tZ) k5;have:=(k6 _ (hbound i j ja tZ) ψ).sub c_;have e1:(((chunk kd n (l.drop off))[i]'ae).cells[j]'hj)=l[off+(i*kd+j)]'(hbound i j ja tZ):=by simp only[e0,AV.cells];simp[uN]
       rw[e1];simpa[ob,ψ]using this
    ·simp only[pQ]at aW;split at aW
     ·cases aW
     ·exact h4.ge b' o aW
    ·simp only[pQ]at aW;split at aW
     ·cases aW
     ·exact h5 b' d aW
   ·cases hz
  ·cases hz
 ·cases hz
theorem W3(hF:∀f,F.fn f)(hd:F.depth=none)(iJ:np F P base LC gl ay){i:Nat}{o:Oper}{o':aN}(hi:ops[i]?=some o)(hc:Fg P bj N ops o=some o')
  (hs:SR gl base N LC cQ g lb own s a w) (Ω:dR gl ay o' s=some s') {K:Act->World->Prop}
  (hK:∀g' lb' aD a' w',ep g own w g' aD w'->SR gl base N LC cQ g' lb' aD s' a' w'->K a' w'):wpOpIn F n P ops Q i K a w:=by
 unfold Fg at hc;split at hc
 ·rename_i gd oK;split at hc
  ·rename_i C8;cases hc;unfold dR at Ω;unfold wpOpIn;simp only[hi];split at Ω
   ·cases Ω
   ·rename_i hw;have wZ:=Xr hs oK hw;simp only[wZ,if_true];refine⟨fun f _=>hF f,?_⟩;split at Ω
    ·rename_i v u m' he;cases Ω;dsimp only at he;unfold Rj at he;cases cC:cO P bj o with
     |none=>rw[cC]at he;simp[aJ]at he
     |some ao=>
      rw[cC]at he
      simp only[ES]at he;have ab0:Oper.semAt F.round a.eval o=execOp a.eval o:=Oper.semAt_eq _ _ _ (Zw (by rw[cC];simp));rw[ab0];by_cases eA:∃f args,ao.Ck=some (f,args)
      ·obtain⟨f',args',nH⟩:=eA;have key:=Zv nH cC;obtain⟨c,f,Θ,rz,hf,iC⟩:=key;have cI:=FD hs.ev iC;have wX:VR g lb (dF gl s.env f') (a.eval f):=by
        rcases hf with hf|⟨k,rfl,rfl⟩
        ·exact hs.ev _ _ hf
        ·exact .fn _ _ _ _ _ _ _ rfl rfl rfl (fun i hi=>by simp at hi) (fun i hi=>by simp at hi)
       obtain⟨rfl,C4⟩:u=none/\tB F (n-1) P (a.eval f) (c.args.map a.eval) w (lJ base LC gl g own w v m'):=by
        cases ao<;>simp only[AO.Ck,a_,az]at nH<;>first|(cases nH;done)|skip
        ·obtain⟨rfl,rfl⟩:=nH;simp only[aJ]at he;split at he
         ·rename_i r m1 he0;simp only[bA,az,Prod.exists]at he;obtain⟨r2,m2,he,rfl,rfl,rfl⟩:=he;exact⟨rfl,(iJ (n-1) g lb own s.mem w _ _ _ _ (a.eval f) (c.args.map a.eval) hs.mem hs.own hs.gl wX (by simpa using cI) he0).mono fun x w' h=>h.fz he⟩
         ·cases he
        ·obtain⟨rfl,rfl⟩:=nH;simp only[aJ,bA,az,Prod.exists]at he;obtain⟨r,m1,he,rfl,rfl,rfl⟩:=he;exact⟨rfl,iJ (n-1) g lb own s.mem w _ _ _ _ (a.eval f) (c.args.map a.eval) hs.mem hs.own hs.gl wX (by simpa using cI) he⟩
       have abe:execOp a.eval o=(do let d<-Deferred.ofValue (a.eval f) (c.args.map a.eval);invoke d.target d.args:Sem Next):=by simp only[execOp,Θ,resolve,rz]
       rw[abe];rcases C4 with⟨nE,as,h1,h2⟩|⟨x,w',h1,h2⟩|⟨l,nE,tmps,fK,v7,h1,h2⟩
       ·rw[h1,Oper.uponIn_enter];refine⟨fun h=>(by rw[hd]at h;cases h),h2.mono fun e w' he=>?_⟩;obtain⟨x,rfl,hR⟩:=he;obtain⟨g',lb',aD,k1,k2⟩:=hs.after C8 (Fi hs hR);exact hK _ _ _ _ _ k1 k2
       ·rw[h1,Oper.uponIn_value];obtain⟨g',lb',aD,k1,k2⟩:=hs.after C8 (Fi hs h2);exact hK _ _ _ _ _ k1 k2
       ·rw[h1,Oper.uponIn_round];refine⟨fun h=>(by rw[hd]at h;cases h),h2.mono fun e w' he=>?_⟩;obtain⟨x,rfl,hR⟩:=he;obtain⟨g',lb',aD,k1,k2⟩:=hs.after C8 (Fi hs hR);exact hK _ _ _ _ _ k1 k2
      ·obtain⟨x,w',h1,h2⟩:=af8 hs.ev hs.mem hs.loc hs.own cC (fun f args=>⟨fun h=>eA ⟨f,args,by rw[h];rfl⟩,fun h=>eA ⟨f,args,by rw[h];rfl⟩⟩) he;obtain⟨g',lb',aD,k1,k2⟩:=hs.after C8 h2;rcases h1 with h1|⟨h1,rfl⟩
       ·rw[h1,Oper.uponIn_value];exact hK _ _ _ _ _ k1 k2
       ·rw[h1,Oper.uponIn_skip];exact hK _ _ _ _ _ k1 k2
    ·cases Ω
   ·rename_i hw;have wZ:=Xr hs oK hw;cases Ω;simp only[wZ,jO,if_false];refine⟨fun f _=>hF f,?_⟩;obtain⟨g',lb',aD,k1,k2⟩:=hs.after C8 (gX.pure (x:=undef) hs.mem hs.loc hs.own (.undef lb));exact hK _ _ _ _ _ k1 k2
  ·cases hc
 ·cases hc
end
def AO.qH:AO->List bh
 | .bad=>[]
 | .mv x=>[x]
 | .pick c a b=>[c,a,b]
 | .alloc _ _=>[]
 | .abld _ _=>[]
 | .box _ _ x=>[x]
 | .build _ parts=>parts.map (·.2.2)
 | .ca _ _ xs=>xs
 | .ld _ _ a=>[a]
 | .st _ a x=>[a,x]
 | .vC x=>[x]
 | .bin _ x y=>[x,y]
 | .eqs _ _ x y=>[x,y]
 | .x7 _ x y=>[x,y]
 | .y_ _ _ x=>[x]
 | .un _ x=>[x]
 | .conv _ x=>[x]
 | .NY _ x=>[x]
 | .jf _ a b=>a++b
 | .fa _ x=>[x]
 | .oz _ _ _ x=>[x]
 | .ia _ x i=>[x,i]
 | .rP _ _ x i=>[x,i]
 | .Bf _ _ _ x i=>[x,i]
 | .lW x i=>[x,i]
 | .lookup _ _ _ m k=>[m,k]
 | .mapup _ m k v=>[m,k,v]
 | .mkmap=>[]
 | .vK _ x lo hi mx=>x::(lo.toList++hi.toList++mx.toList)
 | .zG x lo hi=>x::(lo.toList++hi.toList)
 | .ext x _=>[x]
 | .call f args=>f::args
 | .callz f args=>f::args
 | .appm _ _ _ _ x y=>[x,y]
 | .app _ _ _ _ x y=>[x,y]
 | .len x=>[x]
 | .lens x=>[x]
 | .D1 x=>[x]
 | .NM _=>[]
 | .mkslc _ _ _ n c=>[n,c]
 | .cpy _ x y=>[x,y]
 | .clr _ x=>[x]
 | .del _ m k=>[m,k]
 | .max x y=>[x,y]
 | .min x y=>[x,y]
 | .qQ x=>[x]
 | .zl x=>[x]
def bh.Xf:bh->Option Nat
 | .t n=>some n
 |_=>none
def aN.Jg(o:aN):List Nat:=o.op.qH.filterMap bh.Xf++o.guard.toList.map (·.1)
theorem Ci{ev ev':bh->AV}{top:Nat}{x:Option bh}{d:Nat}(h:∀y∈x.toList,ev y=ev' y):bound ev top x d=bound ev' top x d:=by
 cases x with
 |none=>rfl
 |some y=>simp only[bound,h y (by simp)]
theorem aan{ev ev':bh->AV}{l:List (Nat×Nat×bh)}{cs:List AV}(h:∀y∈l.map (·.2.2),ev y=ev' y):dG ev l cs=dG ev' l cs:=by
 induction l generalizing cs with
 |nil=>rfl
 |cons p l ih=>
  obtain⟨off,size,x⟩:=p
  simp only[ax,cB,forall_eq_or_imp]at h;simp only[dG,h.1];split
  ·exact ih h.2
  ·rfl
theorem XZ{ev ev':bh->AV}{lk mem ay dst}{o:AO}(h:∀x∈o.qH,ev x=ev' x):aJ ev lk mem ay dst o=aJ ev' lk mem ay dst o:=by
 cases o with
 |build z parts=>simp only[aJ,aan (ev:=ev) (ev':=ev') h]
 |ca ag sz xs=>
  have h1:(xs.all fun x=>shaped ag sz (ev x))=xs.all fun x=>shaped ag sz (ev' x):=by rw[Bool.eq_iff_iff];simp only[dL];exact forall_congr' fun x=>forall_congr' fun hx=>by rw[h x hx]
  have h2:(xs.map fun x=>mem.ν (ev x))=xs.map fun x=>mem.ν (ev' x):=dh fun x hx=>by rw[h x hx]
  simp only[aJ,h1,h2]
 |jf f a b=>
  have h1:a.map ev=a.map ev':=dh fun x hx=>h x (zR _ hx)
  have h2:b.map ev=b.map ev':=dh fun x hx=>h x (BZ _ hx);simp only[aJ,h1,h2]
 |call f args=>
  have h1:args.map ev=args.map ev':=dh fun x hx=>h x (xG _ hx)
  have h2:=h f (by simp[AO.qH]);simp only[aJ,h1,h2]
 |callz f args=>
  have h1:args.map ev=args.map ev':=dh fun x hx=>h x (xG _ hx)
  have h2:=h f (by simp[AO.qH]);simp only[aJ,h1,h2]
 |vK sz x lo hi mx=>
  have h2:=h x (by simp[AO.qH])
  have h3:=fun top d=>Ci (top:=top) (d:=d) (x:=lo) (ev:=ev) (ev':=ev') fun y hy=>h y (by simp only[AO.qH,cB,dQ];exact .inr (.inl (.inl hy)));have h4:=fun top d=>Ci (top:=top) (d:=d) (x:=hi) (ev:=ev) (ev':=ev') fun y hy=>h y (by simp only[AO.qH,cB,dQ];exact .inr (.inl (.inr hy)));have h5:=fun top d=>Ci (top:=top) (d:=d) (x:=mx) (ev:=ev) (ev':=ev') fun y hy=>h y (by simp only[AO.qH,cB,dQ];exact .inr (.inr hy));simp only[aJ,h2,h3,h4,h5]
 |zG x lo hi=>
  have h2:=h x (by simp[AO.qH])
  have h3:=fun top d=>Ci (top:=top) (d:=d) (x:=lo) (ev:=ev) (ev':=ev') fun y hy=>h y (by simp only[AO.qH,cB,dQ];exact .inr (.inl hy));have h4:=fun top d=>Ci (top:=top) (d:=d) (x:=hi) (ev:=ev) (ev':=ev') fun y hy=>h y (by simp only[AO.qH,cB,dQ];exact .inr (.inr hy));simp only[aJ,h2,h3,h4]
 |_=>
  simp only[AO.qH,cB,List.not_mem_nil,or_false,forall_eq_or_imp,forall_eq,false_imp_iff,implies_true]at h
  simp only[aJ,h]
inductive tC
 |quiet
 |load
 |new (d:Nat)
 |call
 |mu (st:Bool)
 deriving DecidableEq
def aN.cls(o:aN):tC:=
 match o.op with
 | .alloc false _| .box false _ _| .qQ _=>match o.dst with
  |some d=> .new d
  |none=> .mu false
 | .ld _ _ _=> .load
 | .call _ _| .callz _ _| .appm _ _ _ _ _ _| .app _ _ _ _ _ _| .alloc true _| .box true _ _| .abld _ _=> .call
 | .st _ _ _=> .mu true
 | .bad| .lookup _ _ _ _ _| .D1 _| .mapup _ _ _ _| .del _ _ _| .mkmap| .mkslc _ _ _ _ _| .cpy _ _ _| .clr _ _| .zl _=> .mu false
 |_=> .quiet
inductive uP
 |env (t:Nat)
 |loc (d:Nat)
 |mem
 deriving DecidableEq
def agree:uP->St->St->Prop
 | .env t,s,s'=>br s.env t=br s'.env t
 | .loc d,s,s'=>bR s.loc d=bR s'.loc d
 | .mem,s,s'=>s.mem=s'.mem
theorem xO(r:uP)(s:St):agree r s s:=by cases r<;>rfl
theorem Pw{r:uP}{s s':St}(h:agree r s s'):agree r s' s:=by cases r<;>exact Eq.symm h
theorem Cb{r:uP}{s s' WN:St}(h:agree r s s')(k:agree r s' WN):agree r s WN:=by cases r<;>exact Eq.trans h k
def gU(o:aN):uP->Prop
 | .env t=>o.dst=some t
 | .loc d=>o.cls= .new d\/∃b,o.cls= .mu b
 | .mem=>o.cls= .call\/∃b,o.cls= .mu b
def OL(o:aN):uP->Prop
 | .env t=>t∈o.Jg
 | .loc d=>o.cls= .new d\/∃b,o.cls= .mu b
 | .mem=>o.cls= .call\/∃b,o.cls= .mu b
theorem ahy{o:aN}(hc:o.cls= .quiet){ev:bh->AV}{lk mem ay v u m}(h:aJ ev lk mem ay o.dst o.op=some (v,u,m)):
  u=none/\m=mem/\∀nV xg,aJ ev nV xg ay o.dst o.op=some (v,none,xg):=by
 obtain⟨dst,op,gd⟩:=o;cases op with
 |alloc g z=>cases g<;>cases dst<;>simp[aN.cls]at hc
 |box g n x=>cases g<;>cases dst<;>simp[aN.cls]at hc
 |qQ x=>cases dst<;>simp[aN.cls]at hc
 |bad=>simp[aN.cls]at hc
 |ld=>simp[aN.cls]at hc
 |st=>simp[aN.cls]at hc
 |call=>simp[aN.cls]at hc
 |callz=>simp[aN.cls]at hc
 |appm=>simp[aN.cls]at hc
 |app=>simp[aN.cls]at hc
 |abld=>simp[aN.cls]at hc
 |lookup=>simp[aN.cls]at hc
 |D1=>simp[aN.cls]at hc
 |mapup=>simp[aN.cls]at hc
 |del=>simp[aN.cls]at hc
 |mkmap=>simp[aN.cls]at hc
 |zl=>simp[aN.cls]at hc
 |mkslc=>simp[aN.cls]at hc
 |cpy=>simp[aN.cls]at hc
 |clr=>simp[aN.cls]at hc
 |max x y=>
  simp only[aJ]at h⊢
  split at h
  ·rename_i h1 h2;split at h
   ·rename_i h3;simp only[az,a_]at h;obtain⟨rfl,rfl,rfl⟩:=h;refine⟨rfl,rfl,fun _ _=>?_⟩;rw[if_pos h3]
   ·cases h
  ·cases h
 |min x y=>
  simp only[aJ]at h⊢
  split at h
  ·rename_i h1 h2;split at h
   ·rename_i h3;simp only[az,a_]at h;obtain⟨rfl,rfl,rfl⟩:=h;refine⟨rfl,rfl,fun _ _=>?_⟩;rw[if_pos h3]
   ·cases h
  ·cases h
 |ca ag sz xs=>
  simp only[aJ]at h⊢
  split at h
  ·rename_i hx;simp only[a_,az]at h;obtain⟨rfl,rfl,rfl⟩:=h;refine⟨rfl,rfl,fun _ _=>?_⟩;rw[if_pos hx];rfl
  ·cases h
 |_=>
  simp only[aJ]at h⊢
  repeat' split at h
  all_goals first|(cases h;done)|skip
  all_goals(try simp only[bA,az,a_]at h)
  all_goals first
   |(obtain⟨rfl,rfl,rfl⟩:=h;refine⟨rfl,rfl,fun _ _=>?_⟩;simp_all;done)
   |(obtain⟨x,hx,rfl,rfl,rfl⟩:=h;refine⟨rfl,rfl,fun _ _=>?_⟩;simp_all;done)
   |skip
theorem Y6{o:aN}(hc:o.cls= .call){ev:bh->AV}{lk mem ay v u m}(h:aJ ev lk mem ay o.dst o.op=some (v,u,m)):
  u=none/\∀nV,aJ ev nV mem ay o.dst o.op=some (v,none,m):=by
 obtain⟨dst,op,gd⟩:=o;cases op with
 |alloc g z=>
  cases g with
  |false=>cases dst<;>simp[aN.cls]at hc
  |true=>
   simp only[aJ,newVar,if_true,a_,az]at h⊢
   obtain⟨rfl,rfl,rfl⟩:=h;exact⟨rfl,fun _=>by simp⟩
 |box g n x=>
  cases g with
  |false=>cases dst<;>simp[aN.cls]at hc
  |true=>
   simp only[aJ,newVar,if_true]at h⊢
   split at h
   ·rename_i hn;simp only[a_,az]at h;obtain⟨rfl,rfl,rfl⟩:=h;exact⟨rfl,fun _=>by rw[if_pos hn]⟩
   ·cases h
 |qQ x=>cases dst<;>simp[aN.cls]at hc
 |abld T e=>
  simp only[aJ,a_,az]at h⊢
  obtain⟨rfl,rfl,rfl⟩:=h;exact⟨rfl,fun _=>by simp⟩
 |call f args=>
  simp only[aJ,bA,az,Prod.exists]at h
  obtain⟨a,b,h1,rfl,rfl,rfl⟩:=h;exact⟨rfl,fun _=>by simp only[aJ,h1,p8]⟩
 |callz f args=>
  simp only[aJ]at h⊢
  split at h
  ·rename_i h0;simp only[bA,az,Prod.exists]at h;obtain⟨a,b,h1,rfl,rfl,rfl⟩:=h;exact⟨rfl,fun _=>by simp only[h1,p8]⟩
  ·cases h
 |appm ag sz bytes e x y=>
  simp only[aJ,bA,az,Prod.exists]at h
  obtain⟨a,b,h1,rfl,rfl,rfl⟩:=h;exact⟨rfl,fun _=>by simp only[aJ,h1,p8]⟩
 |app ag sz bytes e x y=>
  simp only[aJ,bA,az,Prod.exists]at h
  obtain⟨a,b,h1,rfl,rfl,rfl⟩:=h;exact⟨rfl,fun _=>by simp only[aJ,h1,p8]⟩
 |_=>simp[aN.cls]at hc
theorem afn{o:aN}{d:Nat}(hc:o.cls= .new d){ev:bh->AV}{lk mem ay v u m}(h:aJ ev lk mem ay o.dst o.op=some (v,u,m)):
  o.dst=some d/\m=mem/\(∃x,u=some (d,x))/\∀nV xg,nV d=lk d->aJ ev nV xg ay o.dst o.op=some (v,u,xg):=by
 obtain⟨dst,op,gd⟩:=o;have hv:∀(nV:Nat->Option (Nat×θ)),nV d=lk d->bJ nV d=bJ lk d:=fun nV h=>by simp only[bJ,h]
 cases op with
 |alloc g z=>
  cases g<;>cases dst<;>simp[aN.cls]at hc
  subst hc;simp only[aJ,newVar,jO,if_false,a_,az]at h⊢;obtain⟨rfl,rfl,rfl⟩:=h;refine⟨trivial,rfl,⟨_,rfl⟩,fun nV xg hl=>?_⟩;rw[hv nV hl];simp
 |box g n x=>
  cases g<;>cases dst<;>simp[aN.cls]at hc
  subst hc;simp only[aJ,newVar,jO,if_false]at h⊢;split at h
  ·rename_i hn;simp only[a_,az]at h;obtain⟨rfl,rfl,rfl⟩:=h;refine⟨trivial,rfl,⟨_,rfl⟩,fun nV xg hl=>?_⟩;rw[hv nV hl,if_pos hn]
  ·cases h
 |qQ x=>
  cases dst<;>simp[aN.cls]at hc
  subst hc;simp only[aJ]at h⊢;split at h
  ·rename_i s d' hx hd;cases hd;simp only[a_,az]at h;obtain⟨rfl,rfl,rfl⟩:=h;refine⟨trivial,rfl,⟨_,rfl⟩,fun nV xg hl=>?_⟩;rw[hv nV hl]
  ·cases h
 |_=>simp[aN.cls]at hc
theorem ae0{o:aN}(hc:o.cls= .load):∃ag n a,o.op= .ld ag n a:=by
 obtain⟨dst,op,gd⟩:=o;cases op with
 |alloc g z=>cases g<;>cases dst<;>simp[aN.cls]at hc
 |box g n x=>cases g<;>cases dst<;>simp[aN.cls]at hc
 |qQ x=>cases dst<;>simp[aN.cls]at hc
 |ld ag n a=>exact⟨_,_,_,rfl⟩
 |_=>simp[aN.cls]at hc
def Pl(gl:Nat->AV)(o:aN)(s S:St):Prop:=
 ∀ag n a,o.op= .ld ag n a->e_ S.env o.guard≠some false->rd (bR s.loc) s.mem (dF gl S.env a) n=rd (bR S.loc) S.mem (dF gl S.env a) n
theorem ajp{env CD:List AV}{gd:Option (Nat×Bool)}(h:∀t∈gd.toList.map (·.1),br env t=br CD t):e_ env gd=e_ CD gd:=by
 cases gd with
 |none=>rfl
 |some p=>simp only[e_];rw[h p.1 (by simp)]
theorem aac{gl:Nat->AV}{env CD:List AV}{l:List bh}(h:∀t∈l.filterMap bh.Xf,br env t=br CD t):∀x∈l,dF gl env x=dF gl CD x:=by
 intro x hx;cases x with
 |t n=>exact h n (List.mem_filterMap.2 ⟨_,hx,rfl⟩)
 |c v=>rfl
 |g n=>rfl
theorem JL{gl:Nat->AV}{ay:cg}{o:aN}{s S S1:St}(Ω:dR gl ay o S=some S1)(nP:∀r,OL o r->agree r s S)(Dk:Pl gl o s S):
  ∃s1,dR gl ay o s=some s1/\(∀r,gU o r->agree r s1 S1)/\∀r,¬gU o r->agree r s1 s/\agree r S1 S:=by
 have hu:∀t∈o.Jg,br s.env t=br S.env t:=fun t ht=>nP (.env t) ht;have hw:e_ s.env o.guard=e_ S.env o.guard:=ajp fun t ht=>hu t (BZ _ ht);have aw:∀x∈o.op.qH,dF gl s.env x=dF gl S.env x:=aac fun t ht=>hu t (zR _ ht);unfold dR at Ω⊢;rw[hw];split at Ω
 ·cases Ω
 ·rename_i wZ;split at Ω
  ·rename_i v u m he;cases Ω;have fin:∀(u':kB) (m':Mem),(∀r,gU o r->r= .mem->m'=m)->(∀d,gU o (.loc d)->bR (eR s.loc u') d=bR (eR S.loc u) d)→
     (¬gU o .mem->m'=s.mem/\m=S.mem)->(∀d,¬gU o (.loc d)->bR (eR s.loc u') d=bR s.loc d/\bR (eR S.loc u) d=bR S.loc d)→
     (∀r,gU o r->agree r ({env:=fE s.env o.dst v,loc:=eR s.loc u',mem:=m'}:St) {env:=fE S.env o.dst v,loc:=eR S.loc u,mem:=m})∧
     ∀r,¬gU o r->agree r ({env:=fE s.env o.dst v,loc:=eR s.loc u',mem:=m'}:St) s/\agree r ({env:=fE S.env o.dst v,loc:=eR S.loc u,mem:=m}:St) S:=by
    intro u' m' h1 h2 h3 h4;refine⟨fun r hr=>?_,fun r hr=>?_⟩
    ·cases r with
     |env t=>simp only[agree];rw[u0,u0,if_pos (show o.dst=some t from hr),if_pos (show o.dst=some t from hr)]
     |loc d=>exact h2 d hr
     |mem=>exact h1 _ hr rfl
    ·cases r with
     |env t=>
      have hr:¬o.dst=some t:=hr
      simp only[agree];rw[u0,u0,if_neg hr,if_neg hr];exact⟨rfl,rfl⟩
     |loc d=>exact h4 d hr
     |mem=>exact h3 hr
   rw[XZ aw];cases hc:o.cls with
   |quiet=>
    obtain⟨rfl,rfl,k⟩:=ahy hc he
    refine⟨_,by rw[k],fin none s.mem (fun r hr he=>?_) (fun d hr=>?_) (fun _=>⟨rfl,rfl⟩) (fun _ _=>⟨rfl,rfl⟩)⟩
    ·subst he;simp[gU,hc]at hr
    ·simp[gU,hc]at hr
   |load=>
    obtain⟨ag,n,a,Θ⟩:=ae0 hc
    have hl:=Dk ag n a Θ (by rw[wZ];simp);simp only[Θ,aJ]at he⊢;rw[hl];split at he
    ·rename_i l fO;simp only[bA,az]at he;obtain⟨x,hx,rfl,rfl,rfl⟩:=he;refine⟨_,by simp only[hx,p8],fin none s.mem (fun r hr he=>?_) (fun d hr=>?_) (fun _=>⟨rfl,rfl⟩) (fun _ _=>⟨rfl,rfl⟩)⟩
     ·subst he;simp[gU,hc]at hr
     ·simp[gU,hc]at hr
    ·cases he
   |new d=>
    obtain⟨hd,rfl,⟨x,rfl⟩,k⟩:=afn hc he
    have hl:bR s.loc d=bR S.loc d:=nP (.loc d) (.inl hc);refine⟨_,by rw[k _ s.mem hl],fin (some (d,x)) s.mem (fun r hr he=>?_) (fun d' hr=>?_) (fun _=>⟨rfl,rfl⟩) (fun d' hr=>?_)⟩
    ·subst he;simp[gU,hc]at hr
    ·simp only[gU,hc,tC.new.injEq,reduceCtorEq,exists_const,or_false]at hr;subst hr;obtain⟨v',b⟩:=x;simp only[eR,iL,if_true]
    ·have φ:d≠d':=fun h=>hr (.inl (by rw[hc,h]));obtain⟨v',b⟩:=x;simp only[eR,iL,if_neg φ];exact⟨trivial,trivial⟩
   |call=>
    obtain⟨rfl,k⟩:=Y6 hc he
    have hm:s.mem=S.mem:=nP .mem (.inl hc);refine⟨_,by rw[hm,k],fin none m (fun _ _ _=>rfl) (fun d hr=>?_) (fun hr=>absurd (.inl hc) hr) (fun _ _=>⟨rfl,rfl⟩)⟩;simp[gU,hc]at hr
   |mu b0=>
    have hm:s.mem=S.mem:=nP .mem ((.inr ⟨_,hc⟩))
    have hl:bR s.loc=bR S.loc:=funext fun d=>nP (.loc d) ((.inr ⟨_,hc⟩));refine⟨_,by rw[hm,hl,he],fin u m (fun _ _ _=>rfl) (fun d hr=>?_) (fun hr=>absurd (.inr ⟨_,hc⟩) hr) (fun d hr=>absurd (.inr ⟨_,hc⟩) hr)⟩;rw[NO,NO,hl]
  ·cases Ω
 ·cases Ω;refine⟨_,rfl,fun r hr=>?_,fun r hr=>?_⟩
  ·cases r with
   |env t=>simp only[agree];rw[u0,u0,if_pos (show o.dst=some t from hr),if_pos (show o.dst=some t from hr)]
   |loc d=>exact nP (.loc d) hr
   |mem=>exact nP .mem hr
  ·cases r with
   |env t=>
    have hr:¬o.dst=some t:=hr
    simp only[agree];rw[u0,u0,if_neg hr,if_neg hr];exact⟨rfl,rfl⟩
   |loc d=>exact⟨rfl,rfl⟩
   |mem=>exact⟨rfl,rfl⟩
def ins(x:Nat)(l:List Nat):List Nat:=if l.contains x then l else x::l
theorem Vz{x y:Nat}{l:List Nat}(h:y∈ins x l):y=x\/y∈l:=by
 unfold ins at h;split at h
 ·exact .inr h
 ·simpa using h
def UN(m l:List Nat):List Nat:=m.foldr ins l
theorem afd{y:Nat}{m l:List Nat}(h:y∈UN m l):y∈m\/y∈l:=by
 induction m with
 |nil=>exact .inr h
 |cons a m ih=>
  rcases Vz h with rfl|h
  ·exact .inl (by simp)
  ·rcases ih h with h|h
   ·exact .inl (by simp[h])
   ·exact .inr h
def tf(acc:List (List Nat)):List Edge->List Nat
 |[]=>[]
 |e::l=>if Region.binds .any e then ins e.on (UN (acc.getD e.on []) (tf acc l))else tf acc l
theorem afe{acc:List (List Nat)}{es:List Edge}{j:Nat}(h:j∈tf acc es):∃e∈es,Region.binds .any e=true/\(j=e.on\/j∈acc.getD e.on []):=by
 induction es with
 |nil=>cases h
 |cons e l ih=>
  simp only[tf]at h
  have tail:j∈tf acc l->∃e'∈e::l,Region.binds .any e'=true/\(j=e'.on\/j∈acc.getD e'.on []):=fun h=>by obtain⟨e',h1,h2⟩:=ih h;exact⟨e',xG _ h1,h2⟩
  split at h
  ·rename_i hb;rcases Vz h with h|h
   ·exact⟨e,by simp,hb,.inl h⟩
   ·rcases afd h with h|h
    ·exact⟨e,by simp,hb,.inr h⟩
    ·exact tail h
  ·exact tail h
def qM:List Oper->List (List Nat)->List (List Nat)
 |[],acc=>acc
 |o::l,acc=>qM l (acc++[tf acc o.after.toList])
def qa:List Oper->Nat->Bool
 |[],_=>true
 |o::l,i=>(o.after.toList.all fun e=>!Region.binds .any e||decide (e.on<i))&&qa l (i+1)
theorem Wf(l:List Oper)(acc:List (List Nat)):∃rest,qM l acc=acc++rest/\rest.length=l.length:=by
 induction l generalizing acc with
 |nil=>exact⟨[],by simp[qM],rfl⟩
 |cons o l ih=>
  obtain⟨rest,h1,h2⟩:=ih (acc++[tf acc o.after.toList])
  exact⟨tf acc o.after.toList::rest,by simp[qM,h1],by simp[h2]⟩
theorem ahb(l:List Oper)(acc:List (List Nat))(i:Nat)(o:Oper)(h:l[i]?=some o)(he:qa l acc.length=true)(j:Nat)
  (hj:j∈(qM l acc).getD (acc.length+i) []):
  ∃e∈o.after,Region.binds .any e=true/\e.on<acc.length+i/\(j=e.on\/j∈(qM l acc).getD e.on []):=by
 induction l generalizing acc i with
 |nil=>simp at h
 |cons o' l ih=>
  simp only[qa,dy,dL,BQ,BP,decide_eq_true_eq]at he
  cases i with
  |zero=>
   simp only[BW,a_]at h
   subst h;obtain⟨rest,h1,h2⟩:=Wf l (acc++[tf acc o'.after.toList]);have hg:(qM (o'::l) acc).getD (acc.length+0) []=tf acc o'.after.toList:=by simp only[qM,h1];simp[nr]
   rw[hg]at hj;obtain⟨e,h3,h4,h5⟩:=afe hj;have ψ:=(he.1 e h3).resolve_left (by simp[h4]);refine⟨e,by simpa using h3,h4,by simpa using ψ,h5.imp id fun h5=>?_⟩;have:(qM (o'::l) acc).getD e.on []=acc.getD e.on []:=by simp only[qM,h1];simp[nr,List.getElem?_append,ψ]
   rw[this];exact h5
  |succ i=>
   simp only[Ju]at h
   have:=ih (acc++[tf acc o'.after.toList]) i h (by simpa using he.2) (by simpa[qM,uN,zU 1 i]using hj);simpa[qM,uN,zU 1 i]using this
def iP(ops:Array Oper):List (List Nat):=qM ops.toList []
theorem Oy{ops:Array Oper}(he:qa ops.toList 0=true){i j:Nat}{o:Oper}(h:ops[i]?=some o)(hj:j∈(iP ops).getD i []):
  ∃e∈o.after,Region.binds .any e=true/\e.on<i/\(j=e.on\/j∈(iP ops).getD e.on []):=by
 have:=ahb ops.toList [] i o (by simpa using h) he j (by simpa[iP]using hj);simpa[iP]using this
theorem Z6{l:List Oper}{k:Nat}(he:qa l k=true){i:Nat}{o:Oper}(h:l[i]?=some o):∀e∈o.after,Region.binds .any e=true->e.on<k+i:=by
 induction l generalizing k i with
 |nil=>simp at h
 |cons o' l ih=>
  simp only[qa,dy,dL,BQ,BP,decide_eq_true_eq]at he
  cases i with
  |zero=>
   simp only[BW,a_]at h
   subst h;intro e hm hb;exact(he.1 e (by simpa using hm)).resolve_left (by simp[hb])
  |succ i=>
   simp only[Ju]at h
   intro e hm hb;have:=ih he.2 h e hm hb;omega
def Cp:tC->tC->Bool
 | .quiet,_=>false
 |_,.quiet=>false
 | .mu true,.load=>false
 | .load,.mu true=>false
 | .mu _,_=>true
 |_,.mu _=>true
 | .call,.call=>true
 | .new d,.new d'=>d==d'
 |_,_=>false
def Mk(o o':aN):Bool:=match o.dst with
 |some t=>o'.dst==some t||o'.Jg.contains t
 |none=>false
def Ah(o o':aN):Bool:=Cp o.cls o'.cls||Mk o o'||Mk o' o
theorem Kn{o o':aN}(h:Ah o o'=false):∀r,gU o r->¬gU o' r/\¬OL o' r:=by
 intro r hr;simp only[Ah,EN]at h;obtain⟨⟨h1,h2⟩,h3⟩:=h;cases r with
 |env t=>
  have hr:o.dst=some t:=hr
  simp only[Mk,hr,EN]at h2;refine⟨fun hw=>?_,fun hw=>?_⟩
  ·have hw:o'.dst=some t:=hw;simp[hw]at h2
  ·have hw:t∈o'.Jg:=hw;simp[hw]at h2
 |loc d=>
  have key:¬(o'.cls= .new d\/∃b,o'.cls= .mu b):=by rintro(hw|⟨b,hw⟩)<;>rcases hr with hr|⟨b',hr⟩<;>simp[hr,hw,Cp]at h1
  exact⟨key,key⟩
 |mem=>
  have key:¬(o'.cls= .call\/∃b,o'.cls= .mu b):=by rintro(hw|⟨b,hw⟩)<;>rcases hr with hr|⟨b',hr⟩<;>simp[hr,hw,Cp]at h1
  exact⟨key,key⟩
def cmp(pre:List (List Nat))(i j:Nat):Bool:=(pre.getD j []).contains i||(pre.getD i []).contains j
def Cw(l:List aN)(pre:List (List Nat)):Bool:=
 (qW l.length).all fun j=>(qW l.length).all fun i=>decide (i=j)||cmp pre i j||(match l[i]?,l[j]? with
  |some oi,some oj=>!Ah oi oj
  |_,_=>true)
def Np(p:tC->Bool)(l:List aN)(i:Nat):Bool:=match l[i]? with
 |some o=>p o.cls
 |none=>false
def rX(l:List aN)(pre:List (List Nat))(p q:tC->Bool):List (Nat×Nat):=
 ((qW l.length).filter (Np p l)).flatMap fun i=>(((qW l.length).filter (Np q l)).filter fun j=>!(cmp pre i j)).map fun j=>(i,j)
def qD:tC->Bool
 | .load=>true
 |_=>false
def yY:tC->Bool
 | .call=>true
 | .mu true=>true
 |_=>false
def Be:tC->Bool
 | .new _=>true
 |_=>false
theorem NV{l:List aN}{pre:List (List Nat)}{p q:tC->Bool}{i j:Nat}{o o':aN}(h1:l[i]?=some o)(h2:l[j]?=some o')(hp:p o.cls=true)(hq:q o'.cls=true)
  (hc:cmp pre i j=false):(i,j)∈rX l pre p q:=by
 have hi:i<l.length:=(fI.1 h1).1;have hj:j<l.length:=(fI.1 h2).1;simp only[rX,List.mem_flatMap,fb,zS,zT,az,Np];exact⟨i,⟨hi,by simp[h1,hp]⟩,j,⟨⟨hj,by simp[h2,hq]⟩,by simp[hc]⟩,rfl,rfl⟩
mutual
theorem AV.eq_of_beq:∀(a b:AV),AV.beq a b=true->a=b
 | .undef,b,h=>by cases b<;>simp[AV.beq]at h;rfl
 | .cR,b,h=>by cases b<;>simp[AV.beq]at h;rfl
 | .int k n,b,h=>by cases b<;>simp[AV.beq]at h;rw[h.1,h.2]
 | .bool x,b,h=>by cases b<;>simp[AV.beq]at h;rw[h]
 | .str s,b,h=>by cases b<;>simp[AV.beq]at h;rw[h]
 | .ig,b,h=>by cases b<;>simp[AV.beq]at h;rfl
 | .ak d v o,b,h=>by cases b<;>simp[AV.beq]at h;rw[h.1.1,h.1.2,h.2]
 | .κ d o,b,h=>by cases b<;>simp[AV.beq]at h;rw[h.1,h.2]
 | .ref l,b,h=>by cases b<;>simp[AV.beq]at h;rw[AV.wh _ _ h]
 | .sl kd i o n c,b,h=>by cases b<;>simp[AV.beq]at h;rw[h.1.1.1.1,h.1.1.1.2,h.1.1.2,h.1.2,h.2]
 | .list c l,b,h=>by cases b<;>simp[AV.beq]at h;rw[h.1,AV.wh _ _ h.2]
 | .agg l,b,h=>by cases b<;>simp[AV.beq]at h;rw[AV.wh _ _ h]
 | .aU l,b,h=>by cases b<;>simp[AV.beq]at h;rw[AV.wh _ _ h]
 | .fn f x y,b,h=>by cases b<;>simp[AV.beq]at h;rw[h.1.1,AV.wh _ _ h.1.2,AV.wh _ _ h.2]
 | .eQ,b,h=>by cases b<;>simp[AV.beq]at h;rfl
 | .iface t v,b,h=>by cases b<;>simp[AV.beq]at h;rw[h.1,AV.eq_of_beq _ _ h.2]
 | .gq,b,h=>by cases b<;>simp[AV.beq]at h;rfl
 | .map i,b,h=>by cases b<;>simp[AV.beq]at h;rw[h]
 | .fQ,b,h=>by cases b<;>simp[AV.beq]at h;rfl
theorem AV.wh:∀(a b:List AV),AV.gO a b=true->a=b
 |[],b,h=>by cases b<;>simp[AV.gO]at h;rfl
 |x::l,b,h=>by
  cases b with
  |nil=>simp[AV.gO]at h
  |cons y m=>simp[AV.gO]at h;rw[AV.eq_of_beq _ _ h.1,AV.wh _ _ h.2]
end
theorem FB{a b:Option (List AV)}(h:fL a b=true):a=b:=by cases a<;>cases b<;>simp[fL]at h;rw[AV.wh _ _ h]
theorem Q6{P:Program}{bj:Nat->Bool}{N:Nat}{ops:Array Oper}{l:List Oper}{l':List aN}(h:tL P bj N ops l=some l'):l'.length=l.length:=by
 induction l generalizing l' with
 |nil=>cases h;rfl
 |cons o l ih=>
  simp only[tL]at h
  split at h
  ·rename_i h1 h2;cases h;simp[ih h2]
  ·cases h
theorem Q5{P:Program}{bj:Nat->Bool}{N:Nat}{ops:Array Oper}{l:List Oper}{l':List aN}(h:tL P bj N ops l=some l'){i:Nat}{o:Oper}(hi:l[i]?=some o):
  ∃o',l'[i]?=some o'/\Fg P bj N ops o=some o':=by
 induction l generalizing l' i with
 |nil=>simp at hi
 |cons x l ih=>
  simp only[tL]at h
  split at h
  ·rename_i h1 h2;cases h;cases i with
   |zero=>simp only[BW,a_]at hi;subst hi;exact⟨_,rfl,h1⟩
   |succ i=>simp only[Ju]at hi⊢;exact ih h2 hi
  ·cases h
structure Trace (gl:Nat->AV) (ay:cg) (l:List aN) (T:Nat->St):Prop where
 step:∀i o,l[i]?=some o->dR gl ay o (T i)=some (T (i+1))
theorem PI{gl:Nat->AV}{ay:cg}{l:List aN}{s:St}{tr:List St}(h:eF gl ay l s=some tr):
  tr.length=l.length+1/\tr[0]?=some s/\∀i o,l[i]?=some o->∃a b,tr[i]?=some a/\tr[i+1]?=some b/\dR gl ay o a=some b:=by
 induction l generalizing s tr with
 |nil=>cases h;exact⟨rfl,rfl,fun i o h=>by simp at h⟩
 |cons x l ih=>
  simp only[eF]at h
  split at h
  ·rename_i s' he;simp only[bA]at h;obtain⟨t,ht,rfl⟩:=h;obtain⟨h1,h2,h3⟩:=ih ht;refine⟨by simp[h1],rfl,fun i o ho=>?_⟩;cases i with
   |zero=>
    simp only[BW,a_]at ho
    subst ho;exact⟨s,s',rfl,by simpa using h2,he⟩
   |succ i=>
    simp only[Ju]at ho⊢
    exact h3 i o ho
  ·cases h
section
variable{gl:Nat->AV}{ay:cg}{l:List aN}{T:Nat->St}
theorem Trace.same(hT:Trace gl ay l T){r:uP}{i:Nat}:∀{k:Nat},i<=k->k<=l.length->(∀j o,i<=j->j<k->l[j]?=some o->¬gU o r)->agree r (T k) (T i):=by
 intro k;induction k with
 |zero=>intro h _ _;obtain rfl:i=0:=(by omega);exact xO _ _
 |succ k ih=>
  intro h hk hn
  rcases di k i with ψ|eH
  ·obtain rfl:i=k+1:=by omega
   exact xO _ _
  ·have h1:=ih eH (by omega) fun j o hj dI=>hn j o hj (by omega);have ψ:k<l.length:=by omega
   have Ω:=hT.step k l[k] (dp ψ);obtain⟨s1,h2,_,h4⟩:=JL (s:=T k) Ω (fun r _=>xO r _) (fun _ _ _ _ _=>rfl);exact Cb (h4 r (hn k l[k] eH (by omega) (dp ψ))).2 h1
theorem Trace.last(hT:Trace gl ay l T){r:uP}{i:Nat}:∀{k:Nat},i<=k->k<=l.length→
  agree r (T k) (T i)\/∃j o,i<=j/\j<k/\l[j]?=some o/\gU o r/\agree r (T k) (T (j+1)):=by
 intro k;induction k with
 |zero=>intro h _;obtain rfl:i=0:=(by omega);exact .inl (xO _ _)
 |succ k ih=>
  intro h hk
  rcases di k i with ψ|eH
  ·obtain rfl:i=k+1:=by omega
   exact .inl (xO _ _)
  ·have ψ:k<l.length:=by omega
   have ho:l[k]?=some l[k]:=dp ψ;by_cases hw:gU l[k] r
   ·exact .inr ⟨k,l[k],eH,by omega,ho,hw,xO _ _⟩
   ·have Ω:=hT.step k l[k] ho;obtain⟨s1,h2,_,h4⟩:=JL (s:=T k) Ω (fun r _=>xO r _) (fun _ _ _ _ _=>rfl);have h5:=(h4 r hw).2;rcases ih eH (by omega)with h1|⟨j,o,k1,k2,k3,k4,k5⟩
    ·exact .inl (Cb h5 h1)
    ·exact .inr ⟨j,o,k1,by omega,k3,k4,Cb h5 k5⟩
def Inv(l:List aN)(T:Nat->St)(listed:Nat->Prop)(s:St):Prop:=
 ∀r k,k<=l.length->(∀j o,j<k->l[j]?=some o->gU o r->listed j)->(∀j o,k<=j->l[j]?=some o->gU o r->¬listed j)->agree r s (T k)
structure JA (gl:Nat->AV) (l:List aN) (T:Nat->St) (iR:Nat->Nat->Prop):Prop where
 back:∀i j,iR i j->i<j
 free:∀i j oi oj,l[i]?=some oi->l[j]?=some oj->i≠j->¬iR i j->¬iR j i->Ah oi oj=false
 cf:∀i j oi oj ag n a,l[i]?=some oi->l[j]?=some oj->oi.op= .ld ag n a->(oj.cls= .call\/oj.cls= .mu true)->¬iR i j->¬iR j i->e_ (T i).env oi.guard≠some false→
  ∀id off,dF gl (T i).env a= .κ id off->rd (fun _=>none) (T j).mem (.κ id off) n=rd (fun _=>none) (T i).mem (.κ id off) n∧
   rd (fun _=>none) (T (j+1)).mem (.κ id off) n=rd (fun _=>none) (T i).mem (.κ id off) n
 sf:∀i j oi oj ag n a,l[i]?=some oi->l[j]?=some oj->oi.op= .ld ag n a->oj.cls= .mu true->¬iR i j->¬iR j i->e_ (T i).env oi.guard≠some false→
  ∀d v off,dF gl (T i).env a= .ak d v off->rd (bR (T j).loc) (T j).mem (.ak d v off) n=rd (bR (T i).loc) (T i).mem (.ak d v off) n∧
   rd (bR (T (j+1)).loc) (T (j+1)).mem (.ak d v off) n=rd (bR (T i).loc) (T i).mem (.ak d v off) n
 af:∀i j oi oj ag n a d,l[i]?=some oi->l[j]?=some oj->oj.op= .ld ag n a->oi.cls= .new d->¬iR i j->¬iR j i→
  ∀v off,dF gl (T j).env a= .ak d v off->False
theorem Cq{o:aN}{ag n a}(h:o.op= .ld ag n a):o.cls= .load:=by obtain⟨dst,op,gd⟩:=o;cases h;rfl
theorem afm{o:aN}{d:Nat}(h:o.cls= .new d):o.dst=some d:=by
 obtain⟨dst,op,gd⟩:=o;cases op with
 |alloc g z=>cases g<;>cases dst<;>simp_all [aN.cls]
 |box g n x=>cases g<;>cases dst<;>simp_all [aN.cls]
 |qQ x=>cases dst<;>simp_all [aN.cls]
 |_=>simp[aN.cls]at h
theorem agb(hT:Trace gl ay l T){iR:Nat->Nat->Prop}(hO:JA gl l T iR){listed:Nat->Prop}{s:St}(hI:Inv l T listed s)
  (eA:∀i j,iR i j->listed j->listed i) {i:Nat} {o:aN} (ho:l[i]?=some o) (yS:¬listed i) (HL:∀j,iR j i->listed j):
  ∃s1,dR gl ay o s=some s1/\Inv l T (fun j=>listed j\/j=i) s1:=by
 have hi:i<l.length:=(fI.1 ho).1;have side:∀r,(∀j oj,l[j]?=some oj->gU oj r->j≠i->iR i j\/iR j i)->agree r s (T i):=by
  intro r hr;refine hI r i (zV hi) (fun j oj hj iK hw=>?_) (fun j oj hj iK hw hl=>?_)
  ·rcases hr j oj iK hw (by omega)with h|h
   ·have:=hO.back _ _ h;omega
   ·exact HL j h
  ·rcases ala hj with rfl|ψ
   ·exact yS hl
   ·rcases hr j oj iK hw (by omega)with h|h
    ·exact yS (eA _ _ h hl)
    ·have:=hO.back _ _ h;omega
 have nP:∀r,OL o r->agree r s (T i):=by
  intro r hr;refine side r fun j oj iK hw φ=>?_;by_cases h1:iR i j
  ·exact .inl h1
  ·by_cases h2:iR j i
   ·exact .inr h2
   ·exact absurd hr (Kn (hO.free j i oj o iK ho φ h2 h1) r hw).2
 have look:∀{β:Type} (f:St->β) (r:uP),(∀s s',agree r s s'->f s=f s')→
   (∀j oj,l[j]?=some oj->gU oj r->j≠i->¬iR i j->¬iR j i->f (T j)=f (T i)/\f (T (j+1))=f (T i))->f s=f (T i):=by
  intro β f r hf TH;have⟨k,hk,pF,gy⟩:∃k,k<=l.length/\(∀j oj,j<k->l[j]?=some oj->gU oj r->listed j)/\(k=l.length\/∃ok,l[k]?=some ok/\gU ok r/\¬listed k):=by
   have:∀k,k<=l.length->(∀j oj,j<k->l[j]?=some oj->gU oj r->listed j)\/∃m,m<k/\(∀j oj,j<m->l[j]?=some oj->gU oj r->listed j)/\∃ok,l[m]?=some ok/\gU ok r/\¬listed m:=by
    intro k;induction k with
    |zero=>intro _;exact .inl fun j oj hj=>by omega
    |succ k ih=>
     intro hk
     rcases ih (by omega)with h|⟨m,h1,h2⟩
     ·have aj:l[k]?=some l[k]:=dp (by omega);by_cases hx:gU l[k] r/\¬listed k
      ·exact .inr ⟨k,by omega,h,_,aj,hx⟩
      ·refine .inl fun j oj hj iK fW=>?_;rcases di j k with ψ|eH
       ·exact h j oj ψ iK fW
       ·obtain rfl:j=k:=by omega
        rw[aj]at iK;cases iK;exact Classical.byContradiction fun hn=>hx ⟨fW,hn⟩
     ·exact .inr ⟨m,by omega,h2⟩
   rcases this l.length (b_ _)with h|⟨m,h1,h2,h3⟩
   ·exact⟨l.length,b_ _,h,.inl rfl⟩
   ·exact⟨m,zV h1,h2,.inr h3⟩
  have Γ:agree r s (T k):=by
   refine hI r k hk pF fun j oj hj iK fW hl=>?_;rcases gy with rfl|⟨ok,h1,h2,h3⟩
   ·have:=(fI.1 iK).1;omega
   ·rcases ala hj with rfl|ψ
    ·exact h3 hl
    ·by_cases g1:iR k j
     ·exact h3 (eA _ _ g1 hl)
     ·by_cases g2:iR j k
      ·have:=hO.back _ _ g2;omega
      ·exact(Kn (hO.free k j ok oj h1 iK (by omega) g1 g2) r h2).1 fW
  rw[hf _ _ Γ];have ordered:i<=k->f (T k)=f (T i):=by
   intro tY;rcases hT.last (r:=r) tY hk with h|⟨j,oj,g1,g2,g3,g4,g5⟩
   ·exact hf _ _ h
   ·rw[hf _ _ g5];have hl:=pF j oj g2 g3 g4;have φ:j≠i:=fun h=>yS (h▸hl);have n1:¬iR i j:=fun h=>yS (eA _ _ h hl);have n2:¬iR j i:=fun h=>by have:=hO.back _ _ h;omega
    exact(TH j oj g3 g4 φ n1 n2).2
  rcases gy with rfl|⟨ok,h1,h2,h3⟩
  ·exact ordered (zV hi)
  ·by_cases g1:iR i k
   ·exact ordered (zV (hO.back _ _ g1))
   ·by_cases g2:iR k i
    ·exact absurd (HL k g2) h3
    ·by_cases hki:k=i
     ·exact ordered (by omega)
     ·exact(TH k ok h1 h2 hki g1 g2).1
 have Dk:Pl gl o s (T i):=by
  intro ag n a Θ hw;cases hp:dF gl (T i).env a with
  |ak d v off=>
   refine look (fun s=>rd (bR s.loc) s.mem (.ak d v off) n) (.loc d) (fun s s' h=>?_) fun j oj iK fW φ n1 n2=>?_
   ·simp only[rd];rw[show bR s.loc d=bR s'.loc d from h]
   ·rcases fW with fW|⟨b,fW⟩
    ·exact(hO.af j i oj o ag n a d iK ho Θ fW n2 n1 v off hp).elim
    ·cases b with
     |false=>
      have:=hO.free j i oj o iK ho φ n2 n1
      simp[Ah,fW,Cq Θ,Cp]at this
     |true=>exact hO.sf i j o oj ag n a ho iK Θ fW n1 n2 hw d v off hp
  |κ id off=>
   refine look (fun s=>rd (bR s.loc) s.mem (.κ id off) n) .mem (fun s s' h=>?_) fun j oj iK fW φ n1 n2=>?_
   ·show rd (fun _=>none) s.mem (.κ id off) n=rd (fun _=>none) s'.mem (.κ id off) n;rw[show s.mem=s'.mem from h]
   ·refine hO.cf i j o oj ag n a ho iK Θ ?_ n1 n2 hw id off hp;rcases fW with fW|⟨b,fW⟩
    ·exact .inl fW
    ·cases b with
     |false=>
      have:=hO.free j i oj o iK ho φ n2 n1
      simp[Ah,fW,Cq Θ,Cp]at this
     |true=>exact .inr fW
  |_=>rfl
 obtain⟨s1,h1,h2,h3⟩:=JL (hT.step i o ho) nP Dk;refine⟨s1,h1,fun r k hk ψ eH=>?_⟩;by_cases hw:gU o r
 ·have tY:i<k:=by
   rcases di i k with h|h
   ·exact h
   ·exact absurd (.inr rfl) (eH i o h ho hw)
  refine Cb (h2 r hw) (Pw (hT.same (i:=i+1) tY hk fun j oj hj Hz iK rM=>?_));have hl:listed j:=(ψ j oj Hz iK rM).resolve_right (by omega);by_cases g1:iR i j
  ·exact yS (eA _ _ g1 hl)
  ·by_cases g2:iR j i
   ·have:=hO.back _ _ g2;omega
   ·exact(Kn (hO.free i j o oj ho iK (by omega) g1 g2) r hw).1 rM
 ·refine Cb (h3 r hw).1 (hI r k hk (fun j oj hj iK rM=>?_) (fun j oj hj iK rM hl=>eH j oj hj iK rM (.inl hl)));refine(ψ j oj hj iK rM).resolve_right ?_
  rintro rfl
  rw[ho]at iK;cases iK;exact hw rM
end
section
variable{F:Fence}{n:Nat}{P:Program}{bj:Nat->Bool}{N:Nat}{gl:Nat->AV}{base:Nat}{LC:eS}{cQ:Nat}{ay:cg}
variable{ops:Array Oper}{Q:Exit->Act->World->Prop}
theorem SR.congr{g:Gh}{lb:LB}{own:OW}{s s':St}{a:Act}{w:World}(h:SR gl base N LC cQ g lb own s a w)(hr:∀r,agree r s s'):SR gl base N LC cQ g lb own s' a w:= {
 env t:=by have:=hr (.env t);simp only[agree]at this;rw[<-this];exact h.env t
 gl:=h.gl
 size:=h.size
 defers:=h.defers
 mem:=by have:=hr .mem;simp only[agree]at this;rw[<-this];exact h.mem
 loc:=by have:bR s.loc=bR s'.loc:=funext fun d=>hr (.loc d);rw[<-this];exact h.loc
 own:=h.own}
theorem SR.drawn{g:Gh}{lb:LB}{own:OW}{s:St}{a:Act}{w:World}(h:SR gl base N LC cQ g lb own s a w)(d:Nat):
  SR gl base N LC cQ g lb own s a {w with drawn:=d}/\ep g own w g own {w with drawn:=d}:=by
 refine⟨⟨h.env,h.gl,h.size,h.defers.ba (g:=g) (g':=g) ⟨g.eM,b_ _,rfl,rfl,rfl,fun _ _ _=>rfl,fun _ _ h=>h,fun _ _ _ _=>rfl⟩,?_,?_,?_⟩,g.eM,b_ _,rfl,rfl,rfl,fun _ _ _=>rfl,fun _ _ h=>h,fun _ _ _ _=>rfl⟩
 ·exact⟨h.mem.jq,h.mem.nj,fun id blk hb=>(h.mem.blk id blk hb).ba g.eM (fun _ _=>⟨rfl,rfl,fun _=>rfl⟩) (fun _ h=>h) (fun h=>h),fun b o x hx=>(p_ (w:=w) rfl).trans (h.mem.im b o x hx)⟩
 ·exact⟨fun d v l hd=>by
    obtain⟨b,h1,h2⟩:=h.loc.cells d v l hd
    exact⟨b,h1,h2.ba g.eM (fun _ _ _ h=>h) rfl rfl fun _=>rfl⟩,h.loc.iter,h.loc.vP⟩
 ·exact⟨h.own.ge,h.own.base⟩
theorem af'(hF:∀f,F.fn f)(hd:F.depth=none)(iJ:np F P base LC gl ay){l:List aN}(hc:tL P bj N ops ops.toList=some l):
  ∀(m k:Nat) (g:Gh) (lb:LB) (own:OW) (s s':St) (a:Act) (w:World),k+m=ops.size->SR gl base N LC cQ g lb own s a w->ef gl ay (l.drop k) s=some s'→
   (∀g' lb' aD a' w',ep g own w g' aD w'->SR gl base N LC cQ g' lb' aD s' a' w'->Q .normal a' w')->wpOpsIn F n P ops Q ((qW m).map (·+k)) a w:=by
 intro m;induction m with
 |zero=>
  intro k g lb own s s' a w hk hs hx hQ
  have hlen:=Q6 hc;rw[List.drop_of_length_le (by simp at hlen;omega)]at hx;cases hx;simpa[wpOpsIn]using hQ _ _ _ _ _ (ep.refl _ _ _) hs
 |succ m ih=>
  intro k g lb own s s' a w hk hs hx hQ
  have c8:k<ops.size:=by omega
  obtain⟨o',rH,cC⟩:=Q5 hc (i:=k) (o:=ops[k]) (by simp[c8]);have ψ:=(fI.1 rH).1;have abM:=(fI.1 rH).2;rw[List.drop_eq_getElem_cons ψ,abM]at hx;simp only[ef]at hx;split at hx
  ·rename_i s1 Ω;have hr:(qW (m+1)).map (·+k)=k::(qW m).map (·+(k+1)):=by rw[List.range_succ_eq_map];simp[List.map_map,Function.comp_def,uN,zU 1 k]
   rw[hr,wpOpsIn_cons];refine W3 hF hd iJ (vR c8) cC hs Ω fun g' lb' aD a' w' h1 h2=>?_;exact ih (k+1) g' lb' aD s1 s' a' w' (by omega) h2 hx fun g2 D0 pQ a2 w2 h3 h4=>hQ _ _ _ _ _ (h1.trans h3) h4
  ·cases hx
def kJ(listed:Array Bool)(j:Nat):Prop:=listed.getD j false=true
theorem Vw{listed:Array Bool}{i:Nat}(hi:i<listed.size)(j:Nat):kJ (listed.setIfInBounds i true) j↔kJ listed j\/j=i:=by
 unfold kJ;by_cases h:i=j
 ·subst h;simp[hi]
 ·rw[getD_set_ne false h];exact⟨.inl,fun h'=>h'.resolve_right fun e=>h e.symm⟩
theorem VL{listed:Array Bool}{i:Nat}(hi:i<listed.size):¬kJ listed i↔listed.getD i true=false:=by unfold kJ;simp[hi]
theorem Zm(he:qa ops.toList 0=true){listed:Array Bool}(eA:∀i o,ops[i]?=some o->kJ listed i->∀e∈o.after,Region.binds .any e=true->kJ listed e.on)
  (aO:listed.size=ops.size):∀j i,i∈(iP ops).getD j []->kJ listed j->kJ listed i:=by
 intro j;induction j using alb with
 |_ j ih=>
  intro i hi hj
  have vg:j<ops.size:=by
   rcases di j ops.size with h|h
   ·exact h
   ·unfold kJ at hj;simp[alc (aO▸h)]at hj
  obtain⟨e,h1,h2,h3,h4⟩:=Oy he (vR vg) hi;have:=eA j _ (vR vg) hj e h1 h2;rcases h4 with rfl|h4
  ·exact this
  ·exact ih e.on h3 i h4 this
theorem ahc(he:qa ops.toList 0=true):∀j i,i∈(iP ops).getD j []->i<j:=by
 intro j;induction j using alb with
 |_ j ih=>
  intro i hi
  rcases di j ops.size with vg|vg
  ·obtain⟨e,h1,h2,h3,h4⟩:=Oy he (vR vg) hi;rcases h4 with rfl|h4
   ·exact h3
   ·have:=ih e.on h3 i h4;omega
  ·obtain⟨rest,h1,h2⟩:=Wf ops.toList [];have hl:(iP ops).length=ops.size:=by simp[iP,h1,h2]
   rw[nr,gW (by omega)]at hi;simp at hi
theorem acj{l:List aN}{j:Nat}{o:aN}(h:l[j]?=some o)(hc:o.cls= .mu true):de l j=true:=by
 simp only[de,h];obtain⟨dst,op,gd⟩:=o;cases op with
 |alloc g z=>cases g<;>cases dst<;>simp[aN.cls]at hc
 |box g n x=>cases g<;>cases dst<;>simp[aN.cls]at hc
 |qQ x=>cases dst<;>simp[aN.cls]at hc
 |st=>rfl
 |_=>simp[aN.cls]at hc
theorem aga{l:List aN}{s:St}{tr:List St}(he:qa ops.toList 0=true)(aj:Cw l (iP ops)=true)(A9:eF gl ay l s=some tr)
  (Ty:(rX l (iP ops) qD yY).all (fun p=>c7 gl l tr p.1 p.2)=true) (haf:(rX l (iP ops) Be qD).all (fun p=>uV gl l tr p.1 p.2)=true):
  Trace gl ay l (fun i=>tr.getD i s)/\JA gl l (fun i=>tr.getD i s) (fun i j=>i∈(iP ops).getD j []):=by
 obtain⟨h1,h2,h3⟩:=PI A9;have hT:Trace gl ay l (fun i=>tr.getD i s):=by refine⟨fun i o ho=>?_⟩;obtain⟨a,b,k1,k2,k3⟩:=h3 i o ho;simpa[nr,k1,k2]using k3
 have Ho:∀i j,¬i∈(iP ops).getD j []->¬j∈(iP ops).getD i []->cmp (iP ops) i j=false:=by intro i j h h';simp only[cmp,EN];exact⟨by simpa using h,by simpa using h'⟩
 refine⟨hT,⟨fun i j h=>ahc he j i h,?_,?_,?_,?_⟩⟩
 ·intro i j oi oj hi hj φ n1 n2;have ae:=(fI.1 hi).1;have dI:=(fI.1 hj).1;simp only[Cw,dL,zT]at aj;have:=aj j dI i ae;simpa[φ,Ho i j n1 n2,hi,hj]using this
 ·intro i j oi oj ag m a hi hj Θ eA n1 n2 hw id off hp;have Γ:=NV (p:=qD) (q:=yY) hi hj (by rw[Cq Θ];rfl) (by rcases eA with eA|eA<;>(rw[eA];rfl)) (Ho i j n1 n2);have iY:=dL.1 Ty _ Γ;obtain⟨si,_,k1,_,_⟩:=h3 i oi hi;obtain⟨sj,EB,k3,k4,_⟩:=h3 j oj hj;simp only[nr,k1,k3,k4,ES]at hw hp⊢;simp only[c7,hi,k1,k3,k4]at iY;split at iY
  ·rename_i Nc;exact absurd Nc hw
  ·rename_i XT m' a' Dt _;rw[Θ]at Dt;cases Dt;rw[hp]at iY;simp only[dy]at iY;exact⟨FB iY.1,FB iY.2⟩
  ·cases iY
 ·intro i j oi oj ag m a hi hj Θ eA n1 n2 hw d v off hp;have Γ:=NV (p:=qD) (q:=yY) hi hj (by rw[Cq Θ];rfl) (by rw[eA];rfl) (Ho i j n1 n2);have iY:=dL.1 Ty _ Γ;obtain⟨si,_,k1,_,_⟩:=h3 i oi hi;obtain⟨sj,EB,k3,k4,_⟩:=h3 j oj hj;simp only[nr,k1,k3,k4,ES]at hw hp⊢;simp only[c7,hi,k1,k3,k4]at iY;split at iY
  ·rename_i Nc;exact absurd Nc hw
  ·rename_i XT m' a' Dt _;rw[Θ]at Dt;cases Dt;rw[hp]at iY;simp only[acj hj eA,ak7,Bool.false_or,dy]at iY;exact⟨FB iY.1,FB iY.2⟩
  ·cases iY
 ·intro i j oi oj ag m a d hi hj Θ eA n1 n2 v off hp;have Γ:=NV (p:=Be) (q:=qD) hi hj (by rw[eA];rfl) (by rw[Cq Θ];rfl) (Ho i j n1 n2);have iY:=dL.1 haf _ Γ;obtain⟨sj,EB,k3,k4,_⟩:=h3 j oj hj;simp only[nr,k3,ES]at hp;simp only[uV,hi,hj,k3,Θ,hp,afm eA]at iY;simp at iY
theorem XX(hF:∀f,F.fn f)(hd:F.depth=none)(iJ:np F P base LC gl ay){l:List aN}(hc:tL P bj N ops ops.toList=some l){T:Nat->St}
  (he:qa ops.toList 0=true) (hT:Trace gl ay l T) (hO:JA gl l T (fun i j=>i∈(iP ops).getD j [])):
  ∀(fuel:Nat) (listed:Array Bool) (g:Gh) (lb:LB) (own:OW) (s:St) (a:Act) (w:World),listed.size=ops.size->listed.countP (fun b=>!b)<=fuel→
   (∀i o,ops[i]?=some o->kJ listed i->∀e∈o.after,Region.binds .any e=true->kJ listed e.on)->Inv l T (kJ listed) s->SR gl base N LC cQ g lb own s a w→
   (∀g' lb' aD a' w',ep g own w g' aD w'->SR gl base N LC cQ g' lb' aD (T l.length) a' w'->Q .normal a' w')->wpAnyIn F n P .any ops Q fuel listed a w:=by
 have hlen:=Q6 hc;simp only[Array.length_toList]at hlen;have AR:∀(listed:Array Bool) (g:Gh) (lb:LB) (own:OW) (s:St) (a:Act) (w:World),listed.size=ops.size->Inv l T (kJ listed) s->SR gl base N LC cQ g lb own s a w→
   (∀g' lb' aD a' w',ep g own w g' aD w'->SR gl base N LC cQ g' lb' aD (T l.length) a' w'->Q .normal a' w')->Region.ready .any ops listed=[]->Q .normal a w:=by
  intro listed g lb own s a w aO hI hs hQ hr;have jU:∀i,i<ops.size->kJ listed i:=by
   intro i;induction i using alb with
   |_ i ih=>
    intro hi
    refine Classical.byContradiction fun hn=>?_;have:i∈Region.ready .any ops listed:=by refine mem_ready.2 ⟨(VL (by omega)).1 hn,_,vR hi,fun e hm hb=>?_⟩;have:=Z6 he (i:=i) (o:=ops[i]) (by simp[hi]) e hm hb;exact ih e.on (by omega) (by omega)
    rw[hr]at this;cases this
  refine hQ _ _ _ _ _ (ep.refl _ _ _) (hs.congr fun r=>hI r l.length (b_ _) (fun j o hj _ _=>jU j (by omega)) fun j o hj ho _ _=>?_);have:=(fI.1 ho).1;omega
 intro fuel;induction fuel with
 |zero=>
  intro listed g lb own s a w aO oG eA hI hs hQ
  have hr:Region.ready .any ops listed=[]:=by
   refine List.eq_nil_iff_forall_not_mem.2 fun i hi=>?_;obtain⟨h1,o,h2,_⟩:=mem_ready.1 hi;have ψ:i<listed.size:=by rw[aO];exact(zO.1 h2).1
   have h0:listed.countP (fun b=>!b)=0:=by omega
   rw[Array.countP_eq_zero]at h0;have:=h0 listed[i] (ak6 ψ);simp[ψ]at h1;simp[h1]at this
  exact⟨hr,AR listed g lb own s a w aO hI hs hQ hr⟩
 |succ fuel ih=>
  intro listed g lb own s a w aO oG eA hI hs hQ
  refine⟨AR listed g lb own s a w aO hI hs hQ,fun i hi=>?_⟩;obtain⟨h1,o,h2,h3⟩:=mem_ready.1 hi;have ψ:i<listed.size:=by rw[aO];exact(zO.1 h2).1
  have yS:¬kJ listed i:=(VL ψ).2 h1;obtain⟨o',rH,cC⟩:=Q5 hc (i:=i) (o:=o) (by simpa using h2);have TA:=Zm he eA aO;have HL:∀j,j∈(iP ops).getD i []->kJ listed j:=by
   intro j hj;obtain⟨e,k1,k2,k3,k4⟩:=Oy he h2 hj;have:=h3 e k1 k2;rcases k4 with rfl|k4
   ·exact this
   ·exact TA _ _ k4 this
  obtain⟨s1,k1,k2⟩:=agb hT hO hI (fun i j h h'=>TA j i h h') rH yS HL;refine W3 hF hd iJ h2 cC hs k1 fun g' lb' aD a' w' h4 h5=>?_;refine ih _ g' lb' aD s1 a' w' (by simpa using aO) ?_ ?_ ?_ h5 fun g2 D0 pQ a2 w2 h6 h7=>hQ _ _ _ _ _ (h4.trans h6) h7
  ·have hx:listed[i]=false:=by simpa[ψ]using h1
   rw[Array.setIfInBounds_def,dif_pos ψ,Array.countP_set];simp[hx];omega
  ·intro j oj hj hl e hm hb;rw[Vw ψ]at hl⊢;rcases hl with hl|rfl
   ·exact .inl (eA j oj hj hl e hm hb)
   ·rw[h2]at hj;cases hj;exact .inl (h3 e hm hb)
  ·have:kJ (listed.setIfInBounds i true)=fun j=>kJ listed j\/j=i:=funext fun j=>propext (Vw ψ j);rw[this];exact k2
end
section
variable(P:Program)(bj:Nat->Bool)(N:Nat)
def ahq(l:List aN):List Nat:=l.filterMap fun o=>match o.op with
 | .alloc true _| .box true _ _=>o.dst
 |_=>none
def J_(ops:Array Oper)(draw:Bool):AC:=match tL P bj N ops ops.toList with
 |some l=>if draw then(if P.follows .mixedOrders&&qa ops.toList 0&&Cw l (iP ops)then .draw l (rX l (iP ops) qD yY) (rX l (iP ops) Be qD)else
   match tL P (fun _=>false) N ops ops.toList with
   |some l'=>if P.follows .mixedOrders&&qa ops.toList 0&&Cw l' (iP ops)then .seq (.draw l' (rX l' (iP ops) qD yY) (rX l' (iP ops) Be qD)) (.Ef (ahq l))else .bad
   |none=> .bad)else .ops l
 |none=> .bad
def kD:Bool->Code->AC
 |_,.skip=> .skip
 |_,.region _ ops draw=>J_ P bj N ops draw
 |rf,.seq a b=> .seq (kD rf a) (kD rf b)
 |rf,.cond x a b=>match cw x with
  |some x=> .cond x (kD rf a) (kD rf b)
  |none=> .bad
 |rf,.block id a=> .block id (kD rf a)
 |rf,.loop a=> .loop (kD rf a)
 |_,.exit id=> .exit id
 |_,.ret=> .ret
 |_,.label _=> .skip
 |rf,.scope a=>kD rf a
 |rf,.rangeFunc f ps fK body=>match cw f with
  |some f=>if rf&&ps.toList.all (fun p=>decide (p<N))then .xy f ps.toList (kD false fK) (kD false body)else .bad
  |none=> .bad
 |_,_=> .bad
end
def Ex.Ar:Ex->Exit
 | .normal=> .normal
 | .exit i=> .exit i
 | .ret=> .ret
section
variable{F:Fence}{n:Nat}{P:Program}{bj:Nat->Bool}{N:Nat}{gl:Nat->AV}{base:Nat}{LC:eS}{cQ:Nat}{ay:cg}
theorem ahp{d:Nat}{g:Gh}{lb:LB}{own:OW}{s s':St}{a:Act}{w:World}(hs:SR gl base N LC cQ g lb own s a w)(h:Eg d s=some s'):
  ∃g' aD,ep g own w g' aD w/\SR gl base N LC cQ g' lb aD s' a w:=by
 unfold Eg at h;split at h
 ·rename_i d' v hd;split at h
  ·rename_i v' l hl;split at h
   ·rename_i fw;obtain⟨rfl,rfl⟩:=fw;cases h;obtain⟨b,hb,hc⟩:=hs.loc.cells _ _ _ hl;have Dp:g.mb s.mem.ε.length=none:=by
     cases hx:g.mb s.mem.ε.length with
     |none=>rfl
     |some y=>have:=hs.mem.jq _ _ hx;omega
    let mJ:Nat->Option Nat:=fun id=>if id=s.mem.ε.length then some b else g.mb id;let aD:OW:=fun b'=>if b'=b then some (.m s.mem.ε.length)else own b';have c_:g.sub {g with mb:=mJ}:=⟨fun _ _ _ h=>h,fun id c hc=>by simp only[mJ];rw[if_neg (fun he=>by rw[he,Dp]at hc;cases hc)];exact hc,fun _ _ _ h=>h⟩;have Ω:ep g own w {g with mb:=mJ} aD w:=⟨c_,b_ _,rfl,rfl,rfl,fun _ _ _=>rfl,fun b' _ aW=>by simp only[aD];rw[if_neg (fun he=>by rw[he,hc.1]at aW;cases aW)];exact aW,fun _ _ _ _=>rfl⟩;have lz:aZ g aD LC s.mem w:=hs.mem.ba g.eM (fun _ h=>h) (fun _ _ h=>h) (fun id b' aW=>⟨by simp only[aD];rw[if_neg (fun he=>by rw[he,hc.1]at aW;cases aW)],rfl,fun _=>rfl⟩) hs.mem.im;refine⟨{g with mb:=mJ},aD,Ω,⟨fun t=>?_,hs.gl.mono c_,hs.size,hs.defers.ba Ω,?_,?_,⟨fun b' o aW=>?_,hs.own.base⟩⟩⟩
    ·have ht:=(hs.env t).sub c_;simp only[fM];split
     ·rename_i L5;subst L5;rw[hd]at ht;generalize a.tmps.getD _ undef=x at ht;cases ht with
      |ak _ _ _ _ b' aW=>
       rw[hb]at aW
       cases aW;exact .κ _ _ _ _ (by simp[mJ])
     ·exact ht
    ·refine hs.mem.push lz _ mJ (fun id c hc=>?_) (fun id hid=>if_neg (by omega)) ?_
     ·simp only[mJ]at hc;split at hc
      ·exact .inr (by assumption)
      ·exact .inl hc
     ·obtain⟨_,h2,ar,e,h3,h4,h5,h6⟩:=hc;refine⟨b,by simp[mJ],by simp[aD],h2,ar,e,h3,by simpa using h4,fun i hi ae=>?_,h6⟩;simp only[iQ];exact(Is hs.mem (h5 i (by simpa using hi) ae)).sub c_
    ·refine⟨fun d2 v2 l2 sL=>?_,fun d2 v2 s2 p2 sL=>?_,fun d2 v2 b2 dA=>?_⟩
     ·simp only[iL]at sL;split at sL
      ·cases sL
      ·rename_i φ;obtain⟨b2,k1,k2⟩:=hs.loc.cells _ _ _ sL;refine⟨b2,k1,k2.ba c_ (fun _ _ _ h=>h) ?_ rfl fun _=>rfl⟩;simp only[aD];rw[if_neg (fun he=>by
        have:=k2.1
        rw[he,hc.1]at this;simp only[a_,Own.l.injEq]at this;exact φ this)]
     ·simp only[iL]at sL;split at sL
      ·cases sL
      ·rename_i φ;obtain⟨b2,k1,k2,k3⟩:=hs.loc.iter _ _ _ _ sL;refine⟨b2,k1,?_,k3⟩;simp only[aD];rw[if_neg (fun he=>by
        rw[he,hc.1]at k2
        simp only[a_,Own.l.injEq]at k2;exact φ k2)]
       exact k2
     ·obtain⟨v3,blk,k1,k2⟩:=hs.loc.vP _ _ _ dA;simp only[iL];split
      ·rename_i g_;subst g_;rw[hl]at k1;cases k1;exact⟨_,_,rfl,k2⟩
      ·exact⟨v3,blk,k1,k2⟩
    ·simp only[aD]at aW;split at aW
     ·rename_i he;subst he;exact hs.own.ge _ _ hc.1
     ·exact hs.own.ge _ _ aW
   ·cases h
  ·cases h
 ·cases h
theorem Wn:∀{l:List Nat} {g:Gh} {own:OW} {lb:LB} {s s':St} {a:Act} {w:World},SR gl base N LC cQ g lb own s a w->Bv l s=some s'→
  ∃g' aD,ep g own w g' aD w/\SR gl base N LC cQ g' lb aD s' a w
 |[],g,own,lb,s,s',a,w,hs,h=>by cases h;exact⟨g,own,.refl _ _ _,hs⟩
 |d::l,g,own,lb,s,s',a,w,hs,h=>by
  simp only[Bv]at h;split at h
  ·rename_i h1;obtain⟨g1,ur,k1,k2⟩:=ahp hs h1;obtain⟨g2,pQ,k3,k4⟩:=Wn k2 h;exact⟨g2,pQ,k1.trans k3,k4⟩
  ·cases h
theorem Rt(hF:∀f,F.fn f)(hd:F.depth=none)(iJ:np F P base LC gl ay){id:Nat}{ops:Array Oper}{l:List aN}(hc:tL P bj N ops ops.toList=some l)
  (aj:(P.follows .mixedOrders&&qa ops.toList 0&&Cw l (iP ops))=true) {g:Gh} {lb:LB} {own:OW} {s s1:St} {a:Act} {w:World}
  (hs:SR gl base N LC cQ g lb own s a w) (hx:ff gl ay l (rX l (iP ops) qD yY) (rX l (iP ops) Be qD) s=some s1) {Q:Exit->Act->World->Prop}
  (hQ:∀g' lb' aD a' w',ep g own w g' aD w'->SR gl base N LC cQ g' lb' aD s1 a' w'->Q .normal a' w'):(Code.region id ops true).wpIn F n P Q a w:=by
 simp only[dy]at aj;unfold ff at hx;split at hx
 ·rename_i tr A9;split at hx
  ·rename_i ew;simp only[dy]at ew;obtain⟨hT,hO⟩:=aga aj.1.2 aj.2 A9 ew.1 ew.2;obtain⟨k1,k2,k3⟩:=PI A9;have wF:tr.getD 0 s=s:=by simp[nr,k2]
   have hTn:tr.getD l.length s=s1:=by rw[List.getLast?_eq_getElem?,k1]at hx;simp at hx;simp[nr,hx]
   obtain⟨d1,d2⟩:=hs.drawn (w.drawn+1);refine wpIn_region_any aj.1.1 (XX hF hd iJ hc aj.1.2 hT hO ops.size _ g lb own s a _ (by simp) ?_ ?_ ?_ d1 ?_)
   ·exact uO Array.countP_le_size (by simp)
   ·intro i o ho hl;unfold kJ at hl;rcases di i ops.size with h|h<;>simp[h]at hl
   ·intro r k hk h1 h2;have:∀j,¬kJ (ald ops.size false) j:=fun j hl=>by unfold kJ at hl;rcases di j ops.size with h|h<;>simp[h]at hl
    have HM:=hT.same (r:=r) (i:=0) (Nat.zero_le k) hk fun j o _ hj ho hw=>this j (h1 j o hj ho hw);simp only[wF]at HM;exact Pw HM
   ·intro g' lb' aD a' w' h1 h2;rw[hTn]at h2;exact hQ _ _ _ _ _ (d2.trans h1) h2
  ·cases hx
 ·cases hx
theorem ahS(hF:∀f,F.fn f)(hd:F.depth=none)(iJ:np F P base LC gl ay){id:Nat}{ops:Array Oper}{draw:Bool}{lp:pd}{g:Gh}{lb:LB}{own:OW}{s s':St}{ex:Ex}{a:Act}{w:World}
  (hs:SR gl base N LC cQ g lb own s a w) (hx:exec gl ay lp (J_ P bj N ops draw) s=some (ex,s')) {Q:Exit->Act->World->Prop}
  (hQ:∀g' lb' aD a' w',ep g own w g' aD w'->SR gl base N LC cQ g' lb' aD s' a' w'->Q ex.Ar a' w'):(Code.region id ops draw).wpIn F n P Q a w:=by
 unfold J_ at hx;split at hx
 ·rename_i l hc;split at hx
  ·rename_i yy;subst yy;split at hx
   ·rename_i aj;simp only[exec,bA,az]at hx;obtain⟨s1,hx,rfl,rfl⟩:=hx;exact Rt hF hd iJ hc aj hs hx hQ
   ·split at hx
    ·rename_i l' gQ;split at hx
     ·rename_i aj;simp only[exec]at hx;cases qz:ff gl ay l' (rX l' (iP ops) qD yY) (rX l' (iP ops) Be qD) s with
      |none=>rw[qz]at hx;cases hx
      |some s1=>
       rw[qz]at hx
       simp only[p8,bA,az]at hx;obtain⟨s2,hx,rfl,rfl⟩:=hx;refine Rt hF hd iJ gQ aj hs qz fun g' lb' aD a' w' h1 h2=>?_;obtain⟨g2,pQ,k1,k2⟩:=Wn h2 hx;exact hQ _ _ _ _ _ (h1.trans k1) k2
     ·cases hx
    ·cases hx
  ·rename_i yy;obtain rfl:draw=false:=by simpa using yy
   simp only[exec,bA,az]at hx;obtain⟨s1,hx,rfl,rfl⟩:=hx;refine wpIn_region ?_;have:=af' (n:=n) (Q:=Q) hF hd iJ hc ops.size 0 g lb own s s1 a w (by simp) hs (by simpa using hx) hQ;simpa using this
 ·cases hx
end
theorem Gh.ZD(g:Gh)(n:Nat):(g.cut n).cut n=g.cut n:=by
 unfold Gh.cut;congr 1
 ·funext id;by_cases h:id<n<;>simp[h]
 ·funext t m;by_cases h:t<n<;>simp[h]
theorem Gh.Fp(g:Gh)(n:Nat):(g.cut n).sub g:=
 ⟨fun _ _ _ h=>h,fun id b h=>(by simp only[Gh.cut]at h;split at h<;>first|exact h|cases h),fun t m x h=>(by simp only[Gh.cut]at h;split at h<;>first|exact h|cases h)⟩
theorem Y9{g:Gh}{n b o cap id k:Nat}{c:τ}(h:mP g n b o cap c)(hl:c.lo id=true)(hk:id<k):mP (g.cut k) n b o cap c:=by
 cases c with
 |any=>trivial
 |nil=>exact h
 |full=>exact h
 |own t=>
  simp only[τ.lo,decide_eq_true_eq]at hl
  exact⟨h.1,by simp only[Gh.cut];rw[if_pos (by omega)];exact h.2⟩
theorem NQ{id:Nat}{v:AV}(h:lo id v=true):∀x∈v.cells,lo id x=true:=by
 intro x hx;cases v with
 |agg l=>simp only[lo,m_,dL]at h;exact h x hx
 |aU l=>cases hx
 |undef=>cases hx
 |_=>simp only[AV.cells,List.mem_singleton]at hx;subst hx;exact h
theorem VR.ZE{g:Gh}{lb:LB}{v:AV}{x:Value}(h:VR g lb v x){id n:Nat}(hn:id<n)(hl:lo id v=true):VR (g.cut n) lb v x:=by
 induction h with
 |undef=>exact .undef _
 |cR _ x h=>exact .cR _ x h
 |int _ k n=>exact .int _ k n
 |bool _ b=>exact .bool _ b
 |str _ b s h=>exact .str _ b s h
 |ig=>exact .ig _
 |ak _ d v off b h=>exact .ak _ d v off b h
 |κ _ mF off b h=>
  simp only[lo,decide_eq_true_eq]at hl
  exact .κ _ mF off b (by simp only[Gh.cut];rw[if_pos (by omega)];exact h)
 |ref _ l b o xs cx _ ih=>
  simp only[lo,m_,dL]at hl
  exact .ref _ l b o xs cx fun i hi=>ih i hi (hl _ (db hi))
 |iM=>exact .iM _
 |h_ _ c a cap hc=>exact .h_ _ c a cap hc
 |sl _ kd mF off m cap gh b hc ew h=>
  simp only[lo,decide_eq_true_eq]at hl
  exact .sl _ kd mF off m cap gh b hc ew (by simp only[Gh.cut];rw[if_pos (by omega)];exact h)
 |list _ c l b o sz m cap xs hm dN hc aO cx _ ih=>
  simp only[lo,m_,dy,dL]at hl
  exact .list _ c l b o sz m cap xs hm dN (Y9 hc hl.1 hn) aO cx fun i hi j hj=>ih i hi j hj (NQ (hl.2 _ (db hi)) _ (db hj))
 |agg _ l a hs h1 _ ih=>
  simp only[lo,m_,dL]at hl
  exact .agg _ l a hs h1 fun i hi ae=>ih i hi ae (hl _ (db hi))
 |aU _ l a hs _ ih=>
  simp only[lo,m_,dL]at hl
  exact .aU _ l a hs fun i hi ae=>ih i hi ae (hl _ (db hi))
 |fn _ f f' l m a b hs ht hy _ _ qC oR=>
  simp only[lo,m_,dy,dL]at hl
  refine .fn _ f f' l m a b hs ht ?_ (fun i hi ae=>qC i hi ae (hl.1.2 _ (db hi))) (fun i hi ae=>oR i hi ae (hl.2 _ (db hi)));cases f<;>cases f'<;>first|exact hy|exact hy.elim|skip
  rename_i i b;have:=hl.1.1;simp only[Fn.below,decide_eq_true_eq]at this;simp only[sh,Gh.cut]at hy⊢;rw[if_pos (by omega)];exact hy
 |eQ=>exact .eQ _
 |iface _ t v x _ ih=>exact .iface _ t v x (ih hl)
 |gq=>exact .gq _
 |map _ mF b h=>
  simp only[lo,decide_eq_true_eq]at hl
  exact .map _ mF b (by simp only[Gh.cut];rw[if_pos (by omega)];exact h)
 |fQ=>exact .fQ _
theorem VR.Rm{g:Gh}{lb:LB}{v:AV}{x:Value}(h:VR g lb v x){g0:Gh}{n:Nat}(hd:∀id b,g0.mb id=some b->id<n)(hr:∀t m y,g0.rows t m=some y->t<n):
  ∀{lb0:LB} {x0:Value},VR g0 lb0 v x0->VR (g.cut n) lb v x:=by
 induction h with
 |undef=>intro _ _ _;exact .undef _
 |cR _ x h=>intro _ _ _;exact .cR _ x h
 |int _ k n=>intro _ _ _;exact .int _ k n
 |bool _ b=>intro _ _ _;exact .bool _ b
 |str _ b s h=>intro _ _ _;exact .str _ b s h
 |ig=>intro _ _ _;exact .ig _
 |ak _ d v off b h=>intro _ _ _;exact .ak _ d v off b h
 |κ _ mF off b h=>
  intro _ _ h0
  cases h0 with
  |κ _ _ _ b0 gF=>exact .κ _ mF off b (by simp only[Gh.cut];rw[if_pos (hd _ _ gF)];exact h)
 |ref _ l b o xs cx _ ih=>
  intro _ _ h0
  cases h0 with
  |ref _ _ b0 o0 xs0 Mi vr=>exact .ref _ l b o xs cx fun i hi=>ih i hi (vr i hi)
 |iM=>intro _ _ _;exact .iM _
 |h_ _ c a cap hc=>intro _ _ _;exact .h_ _ c a cap hc
 |sl _ kd mF off m cap gh b hc ew h=>
  intro _ _ h0
  cases h0 with
  |sl _ _ _ _ _ _ _ b0 AP _ gF=>exact .sl _ kd mF off m cap gh b hc ew (by simp only[Gh.cut];rw[if_pos (hd _ _ gF)];exact h)
 |list _ c l b o sz m cap xs hm dN hc aO cx _ ih=>
  intro _ _ h0
  cases h0 with
  |iM=>exact hc.elim
  |h_ _ c0 a0 Y8 AP=>
   refine .list _ c [] b o sz m cap xs hm dN ?_ aO cx fun i hi=>absurd hi (Nat.not_lt_zero _)
   rcases AP with rfl|⟨rfl,_⟩
   ·trivial
   ·exact hc
  |list _ _ _ b0 o0 sz0 m0 Y8 xs0 T_ ajX AP akc Mi vr=>
   refine .list _ c l b o sz m cap xs hm dN ?_ aO cx fun i hi j hj=>ih i hi j hj (vr i hi j hj)
   cases c with
   |any=>trivial
   |nil=>exact hc
   |full=>exact hc
   |own t=>exact⟨hc.1,by simp only[Gh.cut];rw[if_pos (hr _ _ _ AP.2)];exact hc.2⟩
 |agg _ l a hs h1 _ ih=>
  intro _ _ h0
  cases h0 with
  |agg _ _ a0 kH aE vr=>exact .agg _ l a hs h1 fun i hi ae=>ih i hi ae (vr i hi (by omega))
 |aU _ l a hs _ ih=>
  intro _ _ h0
  cases h0 with
  |aU _ _ a0 kH vr=>exact .aU _ l a hs fun i hi ae=>ih i hi ae (vr i hi (by omega))
 |fn _ f f' l m a b hs ht hy _ _ qC oR=>
  intro _ _ h0
  cases h0 with
  |fn _ _ f0 _ _ a0 b0 kH ht0 DN vr yU=>
   refine .fn _ f f' l m a b hs ht ?_ (fun i hi ae=>qC i hi ae (vr i hi (by omega))) (fun i hi ae=>oR i hi ae (yU i hi (by omega)))
   cases f<;>cases f'<;>first|exact hy|exact hy.elim|skip
   cases f0<;>first|exact DN.elim|skip
   simp only[sh,Gh.cut]at hy DN⊢;rw[if_pos (hd _ _ DN)];exact hy
 |eQ=>intro _ _ _;exact .eQ _
 |iface _ t v x _ ih=>
  intro _ _ h0
  cases h0 with
  |iface _ _ _ x0 h0=>exact .iface _ t v x (ih h0)
 |gq=>intro _ _ _;exact .gq _
 |map _ mF b h=>
  intro _ _ h0
  cases h0 with
  |map _ _ b0 gF=>exact .map _ mF b (by simp only[Gh.cut];rw[if_pos (hd _ _ gF)];exact h)
 |fQ=>intro _ _ _;exact .fQ _
def Ew(n:Nat):Nat->θ->θ
 |0,b=>b
 |k+1,b=>Ew n k (b.Bz n)
theorem aiM(n:Nat):∀(t:List Nat) (bs:List θ) (id:Nat) (blk:θ),(lF n t bs)[id]?=some blk->∃b0 k,bs[id]?=some b0/\blk=Ew n k b0/\(k=0->id∉t):=by
 intro t;induction t with
 |nil=>intro bs id blk h;exact⟨blk,0,h,rfl,fun _ h=>by cases h⟩
 |cons i t ih=>
  intro bs id blk h
  simp only[lF]at h;obtain⟨b0,k,h1,h2,h3⟩:=ih _ id blk h;split at h1
  ·rename_i b hb;rw[vW]at h1;split at h1
   ·rename_i hi;subst hi;split at h1
    ·cases h1;exact⟨b,k+1,hb,h2,fun h=>by omega⟩
    ·cases h1
   ·rename_i hi;exact⟨b0,k,h1,h2,fun hk hm=>by rcases cB.1 hm with rfl|hm;exact hi rfl;exact h3 hk hm⟩
  ·rename_i hb;refine⟨b0,k,h1,h2,fun hk hm=>?_⟩;rcases cB.1 hm with rfl|hm
   ·rw[hb]at h1;cases h1
   ·exact h3 hk hm
theorem Ey{n k:Nat}{b:θ}(h:∀l,b≠ .cells l):Ew n k b=b:=by
 induction k with
 |zero=>rfl
 |succ k ih=>
  have:b.Bz n=b:=by cases b<;>first|rfl|exact absurd rfl (h _)
  rw[Ew,this,ih]
theorem aiL{g:Gh}{n:Nat}:∀(k:Nat) (l:List AV),∃l',Ew n (k+1) (.cells l)= .cells l'/\l'.length=l.length∧
  ∀i (h:i<l.length) (h':i<l'.length) x,VR g bP l[i] x->VR (g.cut n) bP l'[i] x:=by
 intro k;induction k generalizing g with
 |zero=>
  intro l
  refine⟨_,rfl,by simp,fun i h h' x hx=>?_⟩;simp only[iQ];exact hx.exp n true
 |succ k ih=>
  intro l
  obtain⟨l',h1,h2,h3⟩:=ih (g:=g.cut n) (l.map (exp n true));refine⟨l',h1,by simpa using h2,fun i h h' x hx=>?_⟩;have:=h3 i (by simpa using h) h' x (by simp only[iQ];exact hx.exp n true);rwa[Gh.ZD]at this
def pR(n:Nat)(own:OW):OW:=fun b=>match own b with
 |some (.m id)=>if id<n then some (.m id)else none
 |_=>none
theorem zo{n:Nat}{own:OW}{b id:Nat}(h:own b=some (.m id))(hid:id<n):pR n own b=some (.m id):=by simp[pR,h,hid]
theorem Bp{n:Nat}{own:OW}{b:Nat}{o:Own}(h:pR n own b=some o):own b=some o/\∃id,o= .m id:=by
 unfold pR at h;split at h
 ·rename_i id he;split at h
  ·cases h;exact⟨he,id,rfl⟩
  ·cases h
 ·cases h
theorem VY{n:Nat}{own:OW}{b:Nat}(h:own b=none):pR n own b=none:=by simp[pR,h]
theorem PR{g0:Gh}{IE:OW}{LC:eS}{m0:Mem}{w0:World}(h0:aZ g0 IE LC m0 w0){g:Gh}{own:OW}{m:Mem}{w:World}(h:aZ g own LC m w){extra:List θ}
  (hk:KM {ε:=m0.ε++extra,η:=[]} m):aZ (g.cut m0.ε.length) (pR m0.ε.length own) LC (m0.back m) w:=by
 have hlen:m0.ε.length<=m.ε.length:=by have:=hk.len;simp at this;omega
 have ek:(m0.back m).ε.length=m0.ε.length:=JO hlen;refine⟨fun id b hb=>?_,fun t k x hx=>?_,fun id blk hb=>?_,h.im⟩
 ·rw[ek];simp only[Gh.cut]at hb;split at hb<;>first|assumption|cases hb
 ·rw[ek];simp only[Gh.cut]at hx;split at hx<;>first|assumption|cases hx
 ·have hid:id<m0.ε.length:=by have:=(fI.1 hb).1;omega
  simp only[Mem.back]at hb;obtain⟨b0,k,h1,h2,h3⟩:=aiM _ _ _ _ _ hb;rw[List.getElem?_take_of_lt hid]at h1;have hB:=h.blk id b0 h1;have jt:∀b,g.mb id=some b->(g.cut m0.ε.length).mb id=some b:=fun b hb=>by simp only[Gh.cut];rw[if_pos hid];exact hb
  cases b0 with
  |cells l=>
   obtain⟨b,k1,k2,k3,a,e,k4,k5,k6,k7⟩:=hB
   cases k with
   |succ k=>
    obtain⟨l',q1,q2,q3⟩:=aiL (g:=g) (n:=m0.ε.length) k l
    rw[h2,q1];exact⟨b,jt b k1,zo k2 hid,k3,a,e,k4,by omega,fun i hi ae=>q3 i (by omega) hi _ (k6 i (by omega) ae),k7⟩
   |zero=>
    rw[h2]
    refine⟨b,jt b k1,zo k2 hid,k3,a,e,k4,k5,fun i hi ae=>?_,k7⟩;have hv:=k6 i hi ae;rcases hk.cells id l h1 (by simp;omega) (h3 rfl) l[i] (db hi)with⟨Vr,q1,q2⟩|q1
    ·rw[d_ hid]at q1;obtain⟨b',r1,r2,r3,a',e',r4,r5,r6,r7⟩:=h0.blk id _ q1;obtain⟨j,hj,hje⟩:=o_.1 q2;have hx:=r6 j hj (by omega);rw[hje]at hx;exact hv.Rm h0.jq h0.nj hx
    ·exact hv.ZE hid q1
  |iter s pos=>exact hB.elim
  |dead=>
   rw[h2,Ey (by simp)]
   trivial
  |ny T e s=>
   rw[h2,Ey (by simp)]
   obtain⟨b,k1,k2,k3,p,v,k4,k5,k6,k7⟩:=hB;refine⟨b,jt b k1,zo k2 hid,k3,p,v,k4,k5,k6,?_⟩;rcases k7 with k7|⟨r,cap,cur,q1,q2,q3⟩
   ·exact .inl k7
   ·exact .inr ⟨r,cap,cur,q1,zo q2 hid,q3⟩
  |map es=>
   rw[h2,Ey (by simp)]
   obtain⟨b,k1,k2,k3,a,c,k4,k5,k6,k7⟩:=hB;refine⟨b,jt b k1,zo k2 hid,k3,a,c,k4,k5,fun i hi ae=>?_,k7⟩;obtain⟨q1,q2⟩:=k6 i hi ae;obtain⟨p1,p2⟩:=k7 _ (db hi);have r1:=VR.exp (lb':=bP) m0.ε.length true q1;have r2:=VR.exp (lb':=bP) m0.ε.length true q2;rw[CE _ _ _ p1]at r1;rw[CE _ _ _ p2]at r2;exact⟨r1,r2⟩
  |front c sz e=>
   rw[h2,Ey (by simp)]
   obtain⟨k0,b,cap,k1,k2,k3,k4,k5,k6,k7⟩:=hB;refine⟨k0,b,cap,by simp only[Gh.cut];rw[if_pos hid];exact k1,k2,zo k3 hid,k4,k5,fun m' x hx=>k6 m' x ?_,by simp only[Gh.cut];rw[if_pos hid];exact k7⟩;simp only[Gh.cut]at hx;rw[if_pos hid]at hx;exact hx
  |loop env ps fK body st=>
   rw[h2,Ey (by simp)]
   obtain⟨b,k1,k2,k3,L,N,k4,k5,k6,k7,k8,k9,k10,DV,HV⟩:=hB;exact⟨b,jt b k1,zo k2 hid,k3,L,N,k4,fun t=>by
    obtain⟨g0,x0,q1,q2,q3⟩:=HV t
    exact(k5 t).Rm (fun i b hb=>Nat.lt_trans (q1 i b hb) hid) (fun i m y hy=>Nat.lt_trans (q2 i m y hy) hid) q3,k6,k7,k8,k9,k10,DV,HV⟩
def BS(P:Program)(ay:cg):Prop:=
 ∀f first cap l mem r,ay (.fn (.func f) first cap) [.fn (.yield l) [] []] mem=some r->∃fn,P.funcs[f]?=some fn/\fn.body.isNone=false/\(fn.name== "runtime.NumGoroutine")=false
theorem V0{base:Nat}{own:OW}{w:World}(ho:bO base own w):gL own w.heap.size none=own:=by
 funext b;simp only[gL];split
 ·rename_i h;subst h;cases hx:own w.heap.size with
  |none=>rfl
  |some o=>exact absurd rfl (zp ho hx)
 ·rfl
theorem SJ(l:List AV)(t:Nat):br (l.map ν) t=ν (br l t):=by
 induction l generalizing t with
 |nil=>rfl
 |cons a l ih=>cases t with
  |zero=>rfl
  |succ t=>exact ih t
theorem Eo{P:Program}{f:FuncId}{fn:Func}{args:Array Value}{w:World}(h:P.funcs[f]?=some fn)(hb:fn.body.isNone=false)(hn:(fn.name== "runtime.NumGoroutine")=false):
  (callFunc f args).run P w= .ok (.enter f args) w:=by
 have h1:(program:Sem Program).run P w= .ok P w:=rfl;simp only[callFunc,Sem.run_bind,h1,Result.andThen_ok,h,hn,hb,jO,if_false];rfl
section
variable{F:Fence}{n:Nat}{P:Program}{bj:Nat->Bool}{N:Nat}{gl:Nat->AV}{base:Nat}{LC:eS}{cQ:Nat}{ay:cg}
theorem ach{v fv:AV}(h:v.DS=some fv):∃f a b,v= .fn (.func f) a b/\fv=v:=by
 unfold AV.DS at h;split at h
 ·cases h;exact⟨_,_,_,rfl,rfl⟩
 ·cases h
theorem ah1(hF:∀f,F.fn f)(hd:F.depth=none)(vo:F.round=none)(iJ:np F P base LC gl ay)(wI:BS P ay)(hK:KC ay)
  {g:Gh} {lb:LB} {own:OW} {s s':St} {ex:Ex} {a:Act} {w:World} (hs:SR gl base N LC cQ g lb own s a w) {f:Operand} {f':bh} (hf:cw f=some f')
  {ps:Array Tmp} {fK body:Code} {E4 sr:AC} (ha:LC N E4 fK) (hb:LC N sr body) (dd:∀p∈ps.toList,p<N) {lp:pd}
  (hx:exec gl ay lp (.xy f' ps.toList E4 sr) s=some (ex,s')) {Q:Exit->Act->World->Prop}
  (hQ:∀g' lb' aD a' w',ep g own w g' aD w'->SR gl base N LC cQ g' lb' aD s' a' w'->Q ex.Ar a' w'):(Code.rangeFunc f ps fK body).wpIn F n P Q a w:=by
 simp only[exec]at hx;split at hx
 ·rename_i r m hc;obtain⟨fv,C',hc⟩:=B0.1 hc;obtain⟨nE,A,B,aw,rfl⟩:=ach C';have wX:=hs.ev _ _ hf;rw[aw]at wX hc;obtain⟨As,Bs,Tl⟩:∃As Bs,a.eval f= .func (.func nE) As Bs:=by
   generalize a.eval f=y at wX;cases wX with
   |fn _ _ f2 _ _ As Bs _ _ hy=>
    cases f2<;>first|exact hy.elim|skip
    cases hy;exact⟨As,Bs,rfl⟩
  obtain⟨fn0,L9,L_,hf3⟩:=wI _ _ _ _ _ _ hc;refine wpIn_rangeFunc fun fn nK=>?_;have hlen:∀id b,g.mb id=some b->id<s.mem.ε.length:=hs.mem.jq;have yQ:SR gl base N LC cQ g lb own s {a with defers:=zf w.heap.size::a.defers} (w.alloc (.deferred (some []))):=by
   have hm:=hs.mem.alloc hs.own (.deferred (some [])) none;have hl:=hs.loc.alloc hs.own (.deferred (some [])) none;have ho:=hs.own.alloc (.deferred (some [])) none;rw[V0 hs.own]at hm hl ho;refine⟨hs.env,hs.gl,hs.size,?_,hm,hl,ho⟩;obtain⟨h0,ms,h1,h2,h3⟩:=hs.defers;refine⟨by simp;omega,w.heap.size::ms,xH.2 ⟨fun hm=>by have:=(h3 _ hm).2.1;omega,h1⟩,by simp[h2],fun r hr=>?_⟩;rcases cB.1 hr with rfl|hr
   ·refine⟨h0,by simp,?_,qi w _⟩;cases hx:own w.heap.size with
    |none=>rfl
    |some o=>exact absurd rfl (zp hs.own hx)
   ·obtain⟨k1,k2,k3,k4⟩:=h3 r hr;exact⟨k1,by simp;omega,k3,(tU w _ k2).trans k4⟩
  have Uz:ep g own w g own (w.alloc (.deferred (some []))):=by have:=ep.alloc g own w (.deferred (some [])) none;rwa[V0 hs.own]at this
  obtain⟨wA,UE⟩:∃wA,wA=w.alloc (.deferred (some [])):=⟨_,rfl⟩;rw[<-UE]at yQ Uz;obtain⟨L,hL⟩:∃L:Loop,L= {state:= .ready,pending:=none,fn,tmps:=a.tmps,params:=ps,assign:=fK,body,defers:=w.heap.size}:=⟨_,rfl⟩;let gB:Gh:= {g with mb:=fun id=>if id=s.mem.ε.length then some wA.heap.size else g.mb id};let uv:OW:=gL own wA.heap.size (some (.m s.mem.ε.length));let wB:World:=wA.alloc (.loop L);have HP:g.sub gB:=⟨fun _ _ _ h=>h,fun id b hb=>by
   have:=hlen id b hb
   simp only[gB];rw[if_neg (by omega)];exact hb,fun _ _ _ h=>h⟩
  have hmB:aZ gB uv LC {ε:=s.mem.ε++[.loop (s.env.map s.mem.ν) ps.toList E4 sr .ready],η:=[]} wB:=by
   have hm:=yQ.mem;have:=hm.push (hm.alloc yQ.own (.loop L) (some (.m s.mem.ε.length))) (.loop (s.env.map s.mem.ν) ps.toList E4 sr .ready) gB.mb (fun id b hb=>?_) (fun id hid=>?_) ?_
   ·exact⟨this.jq,this.nj,this.blk,this.im⟩
   ·simp only[gB]at hb;split at hb
    ·exact .inr (by assumption)
    ·exact .inl hb
   ·exact if_neg (by omega)
   ·refine⟨wA.heap.size,by simp[gB],by simp[gL],(show∀o,g.im wA.heap.size o=none from w9 hm),L,N,qi wA _,fun t=>?_,by rw[hL],by rw[hL];exact yQ.size,dd,by rw[hL];exact ha,by rw[hL];exact hb,?_,fun t=>?_⟩
    ·have:=(hs.env t).ν (lb':=bP);rw[show(s.env.map s.mem.ν)=s.env.map ν from rfl,SJ,hL];exact this.sub HP
    ·rw[hL];exact⟨rfl,rfl⟩
    ·refine⟨g,a.tmps.getD t undef,hm.jq,hm.nj,?_⟩;rw[show(s.env.map s.mem.ν)=s.env.map ν from rfl,SJ];exact(hs.env t).ν
  have hoB:bO base uv wB:=yQ.own.alloc _ _;have hyB:VR gB lb (.fn (.yield s.mem.ε.length) [] []) (.func (.yield wA.heap.size) #[] #[]):=
   .fn _ _ _ _ _ _ _ rfl rfl (by simp[sh,gB]) (fun i hi=>by simp at hi) (fun i hi=>by simp at hi)
  have C4:=iJ (n-1) gB lb uv _ wB _ _ _ _ (a.eval f) #[.func (.yield wA.heap.size) #[] #[]] hmB hoB (hs.gl.mono HP) (by rw[Tl]at wX⊢;exact wX.sub HP)
   (PW.cons hyB PW.nil) hc
  have Um:(Deferred.ofValue (a.eval f) #[.func (.yield wA.heap.size) #[] #[]]).run P wB= .ok {target:= .fn (.func nE) Bs,args:=As++ #[.func (.yield wA.heap.size) #[] #[]]} wB:=by rw[Tl];rfl
  have hinv:(invoke (.fn (.func nE) Bs) (As++ #[.func (.yield wA.heap.size) #[] #[]])).run P wB= .ok (.enter nE (As++ #[.func (.yield wA.heap.size) #[] #[]]++Bs)) wB:=by simp only[invoke];exact Eo L9 L_ hf3
  have dT:(do let d<-Deferred.ofValue (a.eval f) #[.func (.yield wA.heap.size) #[] #[]];invoke d.target d.args:Sem Next).run P wB= .ok (.enter nE (As++ #[.func (.yield wA.heap.size) #[] #[]]++Bs)) wB:=by simp only[Sem.run_bind,Um,Result.andThen_ok,hinv]
  have abY:(resolve a.eval (rangeCall f wA.heap.size) 0).run P wB= .ok {target:= .fn (.func nE) Bs,args:=As++ #[.func (.yield wA.heap.size) #[] #[]]} wB:=by
   have:(#[Operand.const (.func (.yield wA.heap.size) #[] #[])].map a.eval)= #[.func (.yield wA.heap.size) #[] #[]]:=by simp[Act.eval]
   simp only[resolve,this];exact Um
  unfold tB at C4;rw[dT]at C4;have hci:CallsIn F (n-1) P nE (As++ #[.func (.yield wA.heap.size) #[] #[]]++Bs) wB fun e w'=>∃x,e= .returned x/\lJ base LC gl gB uv wB r m x w':=by
   rcases C4 with⟨f2,as2,h1,h2⟩|⟨_,_,h1,_⟩|⟨_,_,_,_,_,h1,_⟩
   ·cases h1;exact h2
   ·cases h1
   ·cases h1
  refine⟨wA.heap.size,[zf w.heap.size],wB,{target:= .fn (.func nE) Bs,args:=As++ #[.func (.yield wA.heap.size) #[] #[]]},wB,nE,_,wB,?_,abY,fun f' _=>hF f',hinv,fun h=>(by rw[hd]at h;cases h),hci.mono fun e w3 he=>?_⟩
  ·rw[vo];show _=Result.ok (wA.heap.size,[zf w.heap.size]) (wA.alloc (.loop L));rw[UE,hL];simp only[Instr.enterLoop,Sem.run_bind,run_newObj,Result.andThen_ok,Sem.run_pure];rfl
  ·obtain⟨x,rfl,g3,uu,sW,MD,hv3,Ul,aj_,aj3⟩:=he;have hk:=hK _ _ _ _ _ hc;have aby:∃e p q r st,m.ε[s.mem.ε.length]?=some (.loop e p q r st)/\st≠ .busy/\s'= {s with mem:=s.mem.back m}∧
     ex=(match st with| .ready=> .normal| .busy=> .normal| .done none=> .ret| .done (some i)=> .exit i):=by
    split at hx
    ·rename_i he;cases hx;exact⟨_,_,_,_,_,he,by simp,rfl,rfl⟩
    ·rename_i he;cases hx;exact⟨_,_,_,_,_,he,by simp,rfl,rfl⟩
    ·rename_i he;cases hx;exact⟨_,_,_,_,_,he,by simp,rfl,rfl⟩
    ·cases hx
   obtain⟨e,p,q,r',st,gG,vk,rfl,hex⟩:=aby;obtain⟨b,b1,b2,b3,L3,N3,b4,b5,b6,b7,b8,b9,Aa,tI,Cd⟩:=MD.blk _ _ gG;have ko:b=wA.heap.size:=by have:=sW.sub.2.1 s.mem.ε.length wA.heap.size (by simp[gB]);rw[this]at b1;exact(Option.some.inj b1).symm
   subst ko;have ab5:(L3.state==LoopState.busy)=false:=by
    cases st with
    |ready=>rw[tI.1];rfl
    |busy=>exact absurd rfl vk
    |done j=>cases j<;>(rw[tI.1];rfl)
   let w4:World:=fF w3 wA.heap.size (.loop {L3 with state:= .exhausted});have AR:(Instr.endLoop wA.heap.size).run P w3= .ok L3.pending w4:=by
    have h1:(getObj wA.heap.size).run P w3= .ok (.loop L3) w3:=by simp only[getObj,Sem.run,b4]
    have h2:∀y,(setObj wA.heap.size y).run P w3= .ok () (fF w3 wA.heap.size y):=fun y=>by simp only[setObj,Sem.run,b4];rfl
    simp only[Instr.endLoop,Instr.getLoop,Sem.run_bind,h1,Result.andThen_ok,Sem.run_pure,ab5,jO,if_false,h2];rfl
   have ju:∀b',b'≠wA.heap.size->w4.heap[b']?=w3.heap[b']?:=fun b' φ=>by simp only[w4,fF];rw[Jm (Ne.symm φ)]
   have aj8:(s.mem.back m).ε.length=s.mem.ε.length:=JO (by have:=hk.len;simp at this;omega);have aaY:=PR hs.mem MD hk;have UB:g.sub (g3.cut s.mem.ε.length):=by
    refine⟨fun b o y hy=>sW.sub.1 b o y hy,fun id b hb=>?_,fun t k y hy=>?_⟩
    ·simp only[Gh.cut];rw[if_pos (hlen id b hb)];exact sW.sub.2.1 _ _ (HP.2.1 _ _ hb)
    ·simp only[Gh.cut];rw[if_pos (hs.mem.nj t k y hy)];exact sW.sub.2.2 _ _ _ hy
   have hm4:aZ (g3.cut s.mem.ε.length) (pR s.mem.ε.length uu) LC (s.mem.back m) w4:=by
    refine aaY.ba (Gh.eM _) (fun _ h=>h) (fun _ _ h=>h) (fun id b hb=>⟨rfl,ju b ?_,fun _=>rfl⟩) (fun b o y hy=>?_)
    ·rintro rfl
     have h1:=(Bp hb).1;rw[b2]at h1;cases h1;simp[pR,b2]at hb
    ·have φ:b≠wA.heap.size:=by rintro rfl;exact absurd ((b3 o).symm.trans hy) (by simp)
     rw[p_ (ju b φ)];exact MD.im _ _ _ hy
   have oQ:lJ base LC gl g own wA .undef (s.mem.back m) undef w4:=by
    refine⟨g3.cut s.mem.ε.length,pR s.mem.ε.length uu,⟨UB,?_,?_,?_,?_,fun b hb ho=>?_,fun b hb ho=>?_,fun b hb ho o=>?_⟩,hm4,.undef _,⟨fun b o hb=>?_,?_⟩,fun b d hb=>?_,hs.gl.mono UB⟩
    ·have h1:=sW.size;have h2:wA.heap.size<=wB.heap.size:=by simp[wB]
     simp only[w4,fF,Array.size_setIfInBounds];omega
    ·exact sW.os.trans rfl
    ·exact sW.tape.trans rfl
    ·exact sW.output.trans rfl
    ·have φ:b≠wA.heap.size:=by omega
     have Dq:eo uv b=none:=by simp only[eo,uv,gL,if_neg φ];exact ho
     have Dj:b<wB.heap.size:=by simp[wB];omega
     rw[ju b φ,sW.ba b Dj Dq];exact tU wA _ hb
    ·have φ:b≠wA.heap.size:=by omega
     have Dq:eo uv b=none:=by simp only[eo,uv,gL,if_neg φ];exact ho
     have Dj:b<wB.heap.size:=by simp[wB];omega
     exact VY (sW.jD b Dj Dq)
    ·have φ:b≠wA.heap.size:=by omega
     have Dq:eo uv b=none:=by simp only[eo,uv,gL,if_neg φ];exact ho
     have Dj:b<wB.heap.size:=by simp[wB];omega
     exact sW.im b Dj Dq o
    ·have:=Ul.ge b o (Bp hb).1;simpa[w4,fF]using this
    ·simpa[w4,fF]using Ul.base
    ·obtain⟨_,id,h⟩:=Bp hb;cases h
   obtain⟨g',lb',aD,k1,k2⟩:=yQ.after (dst:=none) rfl (Fi yQ oQ);have tV:=hQ g' lb' aD _ w4 (Uz.trans k1) k2;refine⟨L3.pending,w4,AR,?_⟩;cases st with
   |ready=>
    obtain⟨_,hp⟩:=tI
    rw[Option.isNone_iff_eq_none.1 hp];rw[hex]at tV;exact tV
   |busy=>exact absurd rfl vk
   |done j=>
    cases j with
    |none=>
     obtain⟨_,hp⟩:=tI
     cases Du:L3.pending with
     |none=>rw[Du]at hp;exact hp.elim
     |some c=>
      rw[Du]at hp
      cases c<;>first|exact hp.elim|skip
      rw[hex]at tV;exact wpIn_ret tV
    |some i=>
     obtain⟨_,hp⟩:=tI
     cases Du:L3.pending with
     |none=>rw[Du]at hp;exact hp.elim
     |some c=>
      rw[Du]at hp
      cases c<;>first|exact hp.elim|skip
      dsimp only at hp;subst hp;rw[hex]at tV;exact wpIn_exit tV
 ·cases hx
end
section
variable{F:Fence}{n:Nat}{P:Program}{bj:Nat->Bool}{N:Nat}{gl:Nat->AV}{base:Nat}{LC:eS}{cQ:Nat}{ay:cg}
theorem BE{P:Program}{b:Frame}{a:Act}{k:List Item}{cs:List Frame}{w:World}{c:Code}:
  step P (lone (b.atR a (.code (.scope c)::k)) cs w)= .next (lone (b.atR a (.code c:: .inScope c::k)) cs w):=
 step_lone_go (by simp[stepG,stepG.exec,Frame.atR])
theorem aiY{P:Program}{b:Frame}{a:Act}{k:List Item}{cs:List Frame}{w:World}{c:Code}:
  step P (lone (b.atR a (.inScope c::k)) cs w)= .next (lone (b.atR a k) cs w):=
 step_lone_go (by simp[stepG,stepG.exec,Frame.atR])
def noGoto(Q:Exit->Act->World->Prop):Exit->Act->World->Prop
 | .goto _,_,_=>False
 |e,a,w=>Q e a w
theorem ajr{F:Fence}{n:Nat}{P:Program}{Q:Exit->Act->World->Prop}{a:Act}{w:World}{c:Code}(h:c.wpIn F n P (noGoto Q) a w):(Code.scope c).wpIn F n P Q a w:=by
 intro b k cs vo hb hr;have h0:(lone (b.atR a (.code (.scope c)::k)) cs w).fenced P F:=fenced_calm hb hr rfl;obtain⟨e,a₁,w₁,hq,AL⟩:=h b (.inScope c::k) cs vo hb hr;cases e with
 |normal=>exact⟨.normal,a₁,w₁,hq,.head h0 BE (StepsIn.trans AL (.one (fenced_calm hb hr rfl) aiY))⟩
 |exit id=>
  have hx:exitTo id (.inScope c::k)=exitTo id k:=by simp[exitTo]
  exact⟨.exit id,a₁,w₁,hq,fun k' hk=> .head h0 BE (AL.1 k' (by rw[hx];exact hk)),
   fun jv hk=>let⟨k₁,h1,h2⟩:=AL.2 jv (by rw[hx];exact hk);⟨k₁,h1,.head h0 BE h2⟩⟩
 |goto l=>exact hq.elim
 |ret=>exact⟨_,a₁,w₁,hq,.of_steps (.one h0 BE) AL⟩
 |panic ch=>exact⟨_,a₁,w₁,hq,.of_steps (.one h0 BE) AL⟩
 |outgrown=>exact⟨_,a₁,w₁,hq,.of_steps (.one h0 BE) AL⟩
theorem Kq(hF:∀f,F.fn f)(hd:F.depth=none)(iJ:np F P base LC gl ay)(wI:BS P ay)(hK:KC ay)
  (S':∀c,LC N (kD P bj N false c) c) (m:Nat) (c:Code):∀(rf:Bool),(rf=true->F.round=none)->∀(g:Gh) (lb:LB) (own:OW) (s:St) (ex:Ex) (s':St) (a:Act) (w:World) (Q:Exit->Act->World->Prop),
  SR gl base N LC cQ g lb own s a w->exec gl ay (fJ m) (kD P bj N rf c) s=some (ex,s')→
  (∀g' lb' aD a' w',ep g own w g' aD w'->SR gl base N LC cQ g' lb' aD s' a' w'->Q ex.Ar a' w')->c.wpIn F n P Q a w:=by
 induction c with
 |skip=>
  intro rf kr g lb own s ex s' a w Q hs hx hQ
  cases hx;exact wpIn_skip (hQ _ _ _ _ _ (.refl _ _ _) hs)
 |label l=>
  intro rf kr g lb own s ex s' a w Q hs hx hQ
  cases hx;exact wpIn_label (hQ _ _ _ _ _ (.refl _ _ _) hs)
 |exit id=>
  intro rf kr g lb own s ex s' a w Q hs hx hQ
  cases hx;exact wpIn_exit (hQ _ _ _ _ _ (.refl _ _ _) hs)
 |ret=>
  intro rf kr g lb own s ex s' a w Q hs hx hQ
  cases hx;exact wpIn_ret (hQ _ _ _ _ _ (.refl _ _ _) hs)
 |region id ops draw=>
  intro rf kr g lb own s ex s' a w Q hs hx hQ
  exact ahS hF hd iJ hs hx hQ
 |seq x y UM w8=>
  intro rf kr g lb own s ex s' a w Q hs hx hQ
  simp only[kD,exec]at hx;refine wpIn_seq ?_;split at hx
  ·rename_i s1 h1;refine UM rf kr g lb own s .normal s1 a w _ hs h1 fun g1 vz ur a1 w1 k1 k2=>?_;exact w8 rf kr g1 vz ur s1 ex s' a1 w1 Q k2 hx fun g2 D0 pQ a2 w2 k3 k4=>hQ _ _ _ _ _ (k1.trans k3) k4
  ·rename_i φ;refine UM rf kr g lb own s ex s' a w _ hs hx fun g1 vz ur a1 w1 k1 k2=>?_;have:=hQ _ _ _ _ _ k1 k2;cases ex with
   |normal=>exact absurd hx (φ _)
   |exit i=>exact this
   |ret=>exact this
 |cond x b c gm ihc=>
  intro rf kr g lb own s ex s' a w Q hs hx hQ
  simp only[kD]at hx;split at hx
  ·rename_i x' gj;simp only[exec]at hx;split at hx
   ·rename_i t ht;have hv:=hs.ev _ _ gj;rw[ht]at hv;have hb:a.eval x= .bool t:=by generalize a.eval x=y at hv;cases hv;rfl
    refine wpIn_cond hb ?_;cases t with
    |true=>exact gm rf kr g lb own s ex s' a w Q hs hx hQ
    |false=>exact ihc rf kr g lb own s ex s' a w Q hs hx hQ
   ·cases hx
  ·cases hx
 |block id b ih=>
  intro rf kr g lb own s ex s' a w Q hs hx hQ
  simp only[kD,exec]at hx;refine wpIn_block ?_;split at hx
  ·rename_i i s1 h1;refine ih rf kr g lb own s (.exit i) s1 a w _ hs h1 fun g1 vz ur a1 w1 k1 k2=>?_;simp only[Ex.Ar,Exit.inBlock];split at hx
   ·rename_i hi;rw[if_pos hi];cases hx;exact hQ _ _ _ _ _ k1 k2
   ·rename_i hi;rw[if_neg hi];cases hx;exact hQ _ _ _ _ _ k1 k2
  ·rename_i φ;refine ih rf kr g lb own s ex s' a w _ hs hx fun g1 vz ur a1 w1 k1 k2=>?_;have:=hQ _ _ _ _ _ k1 k2;cases ex with
   |normal=>exact this
   |exit i=>exact absurd hx (φ _ _)
   |ret=>exact this
 |loop b ih=>
  intro rf kr g lb own s ex s' a w Q hs hx hQ
  simp only[kD,exec]at hx;refine wpIn_loop_rounds m ?_;have key:∀(k:Nat) (g:Gh) (lb:LB) (own:OW) (s:St) (a:Act) (w:World),SR gl base N LC cQ g lb own s a w->fJ k (exec gl ay (fJ m) (kD P bj N rf b)) s=some (ex,s')→
    (∀g' lb' aD a' w',ep g own w g' aD w'->SR gl base N LC cQ g' lb' aD s' a' w'->Q ex.Ar a' w')->Code.roundsIn F n P b Q k a w:=by
   intro k;induction k with
   |zero=>intro g lb own s a w _ hx _;simp[fJ]at hx
   |succ k DR=>
    intro g lb own s a w hs hx hQ
    simp only[fJ]at hx;rw[roundsIn_succ];split at hx
    ·rename_i s1 h1;refine ih rf kr g lb own s .normal s1 a w _ hs h1 fun g1 vz ur a1 w1 k1 k2=>?_;exact DR g1 vz ur s1 a1 w1 k2 hx fun g2 D0 pQ a2 w2 k3 k4=>hQ _ _ _ _ _ (k1.trans k3) k4
    ·rename_i φ;refine ih rf kr g lb own s ex s' a w _ hs hx fun g1 vz ur a1 w1 k1 k2=>?_;have:=hQ _ _ _ _ _ k1 k2;cases ex with
     |normal=>exact absurd hx (φ _)
     |exit i=>exact this
     |ret=>exact this
  exact key m g lb own s a w hs hx hQ
 |rangeFunc f ps fK body dJ gm=>
  intro rf kr g lb own s ex s' a w Q hs hx hQ
  simp only[kD]at hx;split at hx
  ·rename_i f' nJ;split at hx
   ·rename_i hc;simp only[dy,dL,decide_eq_true_eq]at hc;exact ah1 hF hd (kr hc.1) iJ wI hK hs nJ (S' fK) (S' body) hc.2 hx hQ
   ·cases hx
  ·cases hx
 |scope b ih=>
  intro rf kr g lb own s ex s' a w Q hs hx hQ
  simp only[kD]at hx;refine ajr (ih rf kr g lb own s ex s' a w _ hs hx fun g1 vz ur a1 w1 k1 k2=>?_);have:=hQ _ _ _ _ _ k1 k2;cases ex<;>exact this
 |goto l=>intro rf kr g lb own s ex s' a w Q hs hx hQ;cases hx
 |refuse why=>intro rf kr g lb own s ex s' a w Q hs hx hQ;cases hx
end
section
variable(P:Program)
def J':ResultVar->Option RV
 | .tmp t=>some (.tmp t)
 | .cell a t=>match vO P t,kO P t with
  |some ag,some n=>some (.cell a ag n)
  |_,_=>none
def xT:List ResultVar->Option (List RV)
 |[]=>some []
 |r::l=>match J' P r,xT l with
  |some a,some m=>some (a::m)
  |_,_=>none
end
section
variable{F:Fence}{n:Nat}{P:Program}{bj:Nat->Bool}{N:Nat}{gl:Nat->AV}{base:Nat}{LC:eS}{cQ:Nat}{ay:cg}
variable{g:Gh}{lb:LB}{own:OW}{s:St}{a:Act}{w:World}
theorem ahW(hs:SR gl base N LC cQ g lb own s a w){rv:ResultVar}{r:RV}(hc:J' P rv=some r){v:AV}(hv:r.get s=some v):
  ∃x,((match rv with| .tmp t=>pure (a.tmps.getD t undef)| .cell p t=>do loadVar t (<-asAddr (a.tmps.getD p undef)):Sem Value).run P w= .ok x w)/\VR g lb v x:=by
 cases rv with
 |tmp t=>
  cases hc
  simp only[RV.get,a_]at hv;subst hv;exact⟨_,rfl,hs.env t⟩
 |cell p t=>
  simp only[J']at hc
  split at hc
  ·rename_i ag m lv hm;cases hc;simp only[RV.get]at hv;split at hv
   ·rename_i cs nP;obtain⟨b,off,vs,e1,e2,e3,e4,e5,e6⟩:=Wy hs.mem hs.loc (hs.env p) nP;obtain⟨s1,s2,s3⟩:=o6 (P:=P) (w:=w) hm;have CW:=Je (w:=w) lv;obtain⟨k1,k2⟩:=JJ (a:=vs.toArray) (g:=g) (lb:=lb) ⟨by simp;omega,fun i hi ae=>e5 i hi (by simpa using ae)⟩ (by simpa using e6) hv;have mU:∀j v,vs[j]?=some v->w.cell? ((⟨b,off,none⟩:Addr).add j)=some v:=fun j v hj=>by rw[Addr.add_mid];exact e4 j v hj
    cases ag with
    |true=>
     refine⟨_,?_,k1 rfl⟩
     have AZ:=run_loadCells_list (P:=P) w ⟨b,off,none⟩ vs mU;simp only[e1,asAddr,Sem.run_bind,Sem.run_pure,Result.andThen_ok,loadVar,CW,if_true,s1];rw[<-e2];simp only[AZ,Result.andThen_ok]
    |false=>
     obtain⟨z,hz,wY⟩:=k2 rfl
     have A_:vs=[z]:=by simpa using hz
     subst A_;have h0:w.cell? ⟨b,off,none⟩=some z:=by simpa using e4 0 z (by simp)
     refine⟨z,?_,wY⟩;simp only[e1,asAddr,Sem.run_bind,Sem.run_pure,Result.andThen_ok,loadVar,CW,jO,if_false,run_load,h0]
   ·cases hv
  ·cases hc
theorem ahX(hs:SR gl base N LC cQ g lb own s a w):∀(Er:List ResultVar) (rs:List RV) (l:List AV),xT P Er=some rs->cF s rs=some l→
  ∃xs,(Er.mapM (fun rv=>(match rv with| .tmp t=>pure (a.tmps.getD t undef)| .cell p t=>do loadVar t (<-asAddr (a.tmps.getD p undef)):Sem Value))).run P w= .ok xs w/\PW (VR g lb) l xs:=by
 intro Er;induction Er with
 |nil=>
  intro rs l h1 h2
  cases h1;cases h2;exact⟨[],rfl,PW.nil⟩
 |cons rv Er ih=>
  intro rs l h1 h2
  simp only[xT]at h1;split at h1
  ·rename_i r m k1 k2;cases h1;simp only[cF]at h2;split at h2
   ·rename_i v hv;simp only[bA]at h2;obtain⟨l',h2,rfl⟩:=h2;obtain⟨x,q1,q2⟩:=ahW hs k1 hv;obtain⟨xs,q3,q4⟩:=ih m l' k2 h2;refine⟨x::xs,?_,PW.cons q2 q4⟩;simp only[List.mapM_cons,Sem.run_bind,q1,Result.andThen_ok,q3,Sem.run_pure]
   ·cases h2
  ·cases h1
theorem ah0(hs:SR gl base N LC cQ g lb own s a w){fn:Func}{rs:List RV}(hc:xT P fn.results.toList=some rs){l:List AV}(hl:cF s rs=some l):
  ∃x,(results fn a.tmps).run P w= .ok x w/\VR g lb (cK l) x:=by
 obtain⟨xs,h1,h2⟩:=ahX hs _ _ _ hc hl;have hr:(results fn a.tmps).run P w= .ok (if h:xs.toArray.size=1 then xs.toArray[0]else .tuple xs.toArray) w:=by
  unfold results;rw[Array.mapM_eq_mapM_toList];simp only[Sem.run_bind,map_eq_pure_bind]
  erw [h1]
  rfl
 refine⟨_,hr,?_⟩
 match l,xs,h2 with
 |[],[],h2=>exact .aU _ [] _ rfl (fun i hi=>by simp at hi)
 |[v],[x],h2=>exact h2.2 0 (by simp) (by simp)
 |v::v'::l,x::x'::xs,h2=>
  have:¬(x::x'::xs).toArray.size=1:=by simp
  rw[dif_neg this];exact .aU _ _ _ (by simpa using h2.1.symm) (fun i hi ae=>by have:=h2.2 i hi (by simpa using ae);simpa using this)
 |[],_::_,h2=>exact absurd h2.1 (by simp)
 |[_],[],h2=>exact absurd h2.1 (by simp)
 |[_],_::_::_,h2=>exact absurd h2.1 (by simp)
 |_::_::_,[],h2=>exact absurd h2.1 (by simp)
 |_::_::_,[_],h2=>exact absurd h2.1 (by simp)
theorem ai8{g0:Gh}{IE:OW}{w0:World}(he:w0.heap.size<=cQ){fn:Func}{T:Array Value}{R:Ending->World->Prop}:∀(ms:List Nat) (w:World),ms.Nodup->(∀r∈ms,cQ<=r/\r<w.heap.size/\own r=none/\w.heap[r]?=some (.deferred (some [])))->ep g0 IE w0 g own w→
   SR gl base N LC cQ g lb own s {tmps:=T,defers:=ms.map zf} w→
   (∀w',ep g0 IE w0 g own w'->SR gl base N LC cQ g lb own s {tmps:=T,defers:=[]} w'->LeavesInM F n P fn T R [] .returning w')->LeavesInM F n P fn T R (ms.map zf) .returning w:=by
 intro ms;induction ms with
 |nil=>intro w _ _ h1 h2 hK;exact hK w h1 h2
 |cons r ms ih=>
  intro w yL mC h1 h2 hK
  obtain⟨k1,k2,k3,k4⟩:=mC r (by simp);obtain⟨Ui,yL⟩:=xH.1 yL;have ju:∀b',b'≠r->(fF w r (.deferred none)).heap[b']?=w.heap[b']?:=fun b' φ=>by simp only[fF];rw[Jm (Ne.symm φ)]
  have aO:(fF w r (.deferred none)).heap.size=w.heap.size:=by simp[fF]
  refine⟨by simp,.inl ⟨r,fF w r (.deferred none),rfl,?_,ih _ yL (fun r' jv=>?_) ?_ ?_ hK⟩⟩
  ·have q1:(getObj r).run P w= .ok (.deferred (some [])) w:=by simp only[getObj,Sem.run,k4]
   have q2:∀y,(setObj r y).run P w= .ok () (fF w r y):=fun y=>by simp only[setObj,Sem.run,k4];rfl
   simp only[Instr.takeDeferred,Sem.run_bind,q1,Result.andThen_ok,q2,Sem.run_pure]
  ·obtain⟨j1,j2,j3,j4⟩:=mC r' (xG _ jv);exact⟨j1,by rw[aO];exact j2,j3,by rw[ju r' (by rintro rfl;exact Ui jv)];exact j4⟩
  ·exact⟨h1.sub,by rw[aO];exact h1.size,h1.os,h1.tape,h1.output,fun b hb ho=>by rw[ju b (by omega)];exact h1.ba b hb ho,h1.jD,h1.im⟩
  ·have gz:∀b o,own b=some o->b≠r:=fun b o hb=>by rintro rfl;rw[k3]at hb;cases hb
   refine⟨h2.env,h2.gl,h2.size,?_,h2.mem.ba (Gh.eM _) (fun _ h=>h) (fun _ _ h=>h) (fun id b hb=>⟨rfl,ju b (gz b _ hb),fun _=>rfl⟩) (fun b o y hy=>?_),
    h2.loc.ba (Gh.eM _) (fun d b hb=>⟨rfl,ju b (gz b _ hb),fun _=>rfl⟩),⟨fun b o hb=>by rw[aO];exact h2.own.ge b o hb,by rw[aO];exact h2.own.base⟩⟩
   ·refine⟨by rw[aO];exact h2.defers.1,ms,yL,rfl,fun r' jv=>?_⟩;obtain⟨j1,j2,j3,j4⟩:=mC r' (xG _ jv);exact⟨j1,by rw[aO];exact j2,j3,by rw[ju r' (by rintro rfl;exact Ui jv)];exact j4⟩
   ·have φ:b≠r:=by
     rintro rfl
     have:=h2.mem.im _ _ _ hy;simp[sq,k4]at this
    rw[p_ (ju b φ)];exact h2.mem.im _ _ _ hy
end
def Gh.fr(g:Gh)(own:OW)(w:World)(n:Nat):Gh:= {
 im b o:=match own b with
  |some (.m id)=>if n<=id then w.cell? ⟨b,o,none⟩else g.im b o
  |_=>g.im b o
 mb:=(g.cut n).mb
 rows:=(g.cut n).rows}
theorem aaw{g:Gh}{own:OW}{LC:eS}{mem:Mem}{w:World}(hm:aZ g own LC mem w)(n:Nat)(b o:Nat)(x:Value)(h:(g.fr own w n).im b o=some x):w.cell? ⟨b,o,none⟩=some x:=by
 simp only[Gh.fr]at h;split at h
 ·split at h
  ·exact h
  ·exact hm.im _ _ _ h
 ·exact hm.im _ _ _ h
theorem ye{g:Gh}{own:OW}{LC:eS}{mem:Mem}{w:World}(hm:aZ g own LC mem w)(n:Nat):(g.cut n).sub (g.fr own w n):=by
 refine⟨fun b o x hx=>?_,fun _ _ h=>h,fun _ _ _ h=>h⟩;have hx:g.im b o=some x:=hx;simp only[Gh.fr];split
 ·split
  ·exact hm.im _ _ _ hx
  ·exact hx
 ·exact hx
theorem Zi{n:Nat}{hp:Nat->Nat->AV}{hs:Nat->Nat->Nat->Nat->AV}(h1:∀id off,(hp id off).cells=[hp id off])(h2:∀kd id off m,(hs kd id off m).cells=[hs kd id off m])(v:AV):
  (fC n hp hs v).cells=v.cells.map (fC n hp hs):=by
 cases v with
 |κ id off=>
  by_cases h:id<n
  ·simp[fC,AV.cells,h]
  ·have e:fC n hp hs (.κ id off)=hp id off:=by simp[fC,h]
   rw[e,h1,<-e];rfl
 |sl kd id off m cap=>
  by_cases h:id<n
  ·simp[fC,AV.cells,h]
  ·have e:fC n hp hs (.sl kd id off m cap)=hs kd id off m:=by simp[fC,h]
   rw[e,h2,<-e];rfl
 |fn f a b=>simp only[fC,AV.cells,ax,aI];by_cases h:Fn.below n f=true<;>simp[h]
 |map id=>simp only[fC,AV.cells,ax,aI];by_cases h:id<n<;>simp[h]
 |_=>simp[fC,AV.cells,qc]
section
variable{g:Gh}{own:OW}{LC:eS}{mem:Mem}{w:World}
theorem PY(hm:aZ g own LC mem w){id b n:Nat}{l:List AV}(hb:g.mb id=some b)(hl:mem.ε[id]?=some (.cells l))(hn:¬id<n):
  ∃a:Array Value,l.length<=a.size/\(∀i (h:i<a.size),(g.fr own w n).im b i=some a[i]/\a[i].oneCell'=true)/\∀i (h:i<l.length) (h':i<a.size),VR g bP l[i] a[i]:=by
 obtain⟨b',k1,k2,k3,a,e,k4,k5,k6,k7⟩:=hm.blk id _ hl;rw[hb]at k1;cases k1;refine⟨a,k5,fun i h=>⟨?_,k7 i h⟩,fun i h h'=>k6 i h h'⟩;simp only[Gh.fr,k2];rw[if_pos (by omega)];simp[sq,k4,h]
theorem FN(bs:List θ)(n k:Nat)(v:AV):(aQ bs n k v).cells=v.cells.map (aQ bs n k):=by
 cases k with
 |zero=>exact Fl n false v
 |succ k=>
  refine Zi (fun id off=>?_) (fun kd id off m=>?_) v
  ·split<;>rfl
  ·(repeat' split)<;>rfl
theorem aaC(hm:aZ g own LC mem w)(n:Nat):∀(k:Nat) {lb lb':LB} {v:AV} {x:Value},VR g lb v x->VR (g.fr own w n) lb' (aQ mem.ε n k v) x:=by
 intro k;induction k with
 |zero=>intro lb lb' v x h;exact(h.exp n false).sub (ye hm n)
 |succ k DR=>
  intro lb lb' v x h
  induction h generalizing lb' with
  |undef=>exact .undef _
  |cR _ x h=>exact .cR _ x h
  |int _ k n=>exact .int _ k n
  |bool _ b=>exact .bool _ b
  |str _ b s h=>exact .str _ b s h
  |ig=>exact .ig _
  |ak _ d v off b h=>exact .cR _ _ rfl
  |κ _ id off b h=>
   simp only[aQ,fC]
   split
   ·rename_i hi;exact .κ _ id off b (by simp only[Gh.fr,Gh.cut,hi,if_true];exact h)
   ·rename_i hi;split
    ·rename_i l hl;obtain⟨a,h1,h2,h3⟩:=PY hm h hl hi;refine .ref _ _ b off (fun i=>a.getD (off+i) undef) (fun i ae=>?_) (fun i ae=>?_)
     ·simp at ae;have ψ:off+i<a.size:=by omega
      have:=h2 (off+i) ψ;simpa[ob,ψ]using this
     ·simp at ae;have ψ:off+i<a.size:=by omega
      have:=DR (lb':=bP) (h3 (off+i) (by omega) ψ);simpa[ob,ψ]using this
    ·exact .cR _ _ rfl
  |ref _ l b o xs cx _ ih=>
   simp only[aQ,fC,qc]
   refine .ref _ _ b o xs (fun i hi=>?_) (fun i hi=>?_)
   ·have:=cx i (by simpa using hi);exact⟨(ye hm n).1 _ _ _ this.1,this.2⟩
   ·simp only[iQ];exact ih i (by simpa using hi)
  |iM=>
   simp only[aQ,fC,qc,aI,τ.exp]
   exact .iM _
  |sl _ kd id off m cap gh b hc ew h=>
   simp only[aQ,fC]
   split
   ·rename_i hi;exact .sl _ kd id off m cap gh b hc ew (by simp only[Gh.fr,Gh.cut,hi,if_true];exact h)
   ·rename_i hi;split
    ·rename_i l hl;obtain⟨a,h1,h2,h3⟩:=PY hm h hl hi;split
     ·rename_i sO;split
      ·rename_i oN;subst oN;have abg:off+m<=l.length:=by have e0:ak_ 0 1=1:=rfl;rw[e0]at sO;omega
       split
       ·rename_i rJ;simp only[dL]at rJ;have tT:∀v,v∈(l.drop off).take m->(aQ mem.ε n k v).cells=[aQ mem.ε n k v]:=fun v hv=>by rw[FN];have:=rJ v hv;cases v<;>simp_all [AV.cells,AV.one]
        refine .list _ .any _ b off 1 m gh (fun i _=>a.getD (off+i) undef) (by simp;omega) (by omega) trivial (fun e he=>?_) (fun i ae j hj=>?_) (fun i ae j hj=>?_)
        ·obtain⟨v,hv,rfl⟩:=fb.1 he;rw[tT v hv];rfl
        ·obtain rfl:j=0:=by omega
         have ψ:off+i<a.size:=by omega
         have:=h2 (off+i) ψ;simpa[ob,ψ]using this
        ·simp at ae;have ψ:off+i<a.size:=by omega
         have Γ:l[off+i]'(by omega)∈(l.drop off).take m:=by rw[o_];exact⟨i,by simp;omega,by simp⟩
         have e1:((((l.drop off).take m).map (aQ mem.ε n k))[i]'(by simp;omega))=aQ mem.ε n k (l[off+i]'(by omega)):=by simp
         have e2:=tT _ Γ;have Mn:j=0:=by have:=hj;simp only[e1,e2,cN,eT]at this;omega
         subst Mn;have:=DR (lb':=bP) (h3 (off+i) (by omega) ψ);simp only[e1,e2,kz];simpa[ob,ψ]using this
       ·exact .cR _ _ rfl
      ·rename_i oN;have jK:ak_ kd 1=kd:=ak' (by omega);rw[jK]at sO;have hbound:∀i j,i<m->j<kd->off+(i*kd+j)<l.length:=by intro i j hi hj;have:=DQ hi hj;omega
       refine .list _ .any _ b off kd m gh (fun i j=>a.getD (off+(i*kd+j)) undef) (Ag _ _ _) (by omega) trivial (fun e he=>?_) (fun i ae j hj=>?_) (fun i ae j hj=>?_)
       ·obtain⟨i,ja,rfl⟩:=o_.1 he;rw[Fo];simp only[AV.cells,lM,lL,cz];rw[Ag]at ja;have h5:(i+1)*kd<=m*kd:=nu _ ja;rw[kA]at h5;omega
       ·have ψ:off+(i*kd+j)<a.size:=kg (hbound i j ae hj) h1;have:=h2 _ ψ;simpa[ob,ψ]using this
       ·have ja:i<m:=by rw[Ag]at ae;exact ae
        have e0:=Fo kd m ((l.drop off).map (aQ mem.ε n k)) i ae;have tZ:j<kd:=by have:=hj;rw[e0]at this;simp only[AV.cells,lM,lL,cz]at this;omega
        have ψ:off+(i*kd+j)<a.size:=kg (hbound i j ja tZ) h1;have:=DR (lb':=bP) (h3 _ (hbound i j ja tZ) ψ);have e1:(((chunk kd m ((l.drop off).map (aQ mem.ε n k)))[i]'ae).cells[j]'hj)=aQ mem.ε n k (l[off+(i*kd+j)]'(hbound i j ja tZ)):=by simp only[e0,AV.cells,BY,xF,iQ]
        rw[e1];simpa[ob,ψ]using this
     ·exact .cR _ _ rfl
    ·exact .cR _ _ rfl
  |h_ _ c a cap hc=>
   have he:aQ mem.ε n (k+1) (.list c [])= .list (c.exp n false) []:=by simp only[aQ,fC,qc,aI]
   rw[he];refine .h_ _ _ a cap ?_;rcases hc with rfl|⟨rfl,h⟩<;>exact .inl rfl
  |list _ c l b o sz m cap xs lz dN hc aO cx _ ih=>
   have he:aQ mem.ε n (k+1) (.list c l)= .list (c.exp n false) (l.map (aQ mem.ε n (k+1))):=by simp only[aQ,fC,qc]
   rw[he];have C5:∀v,(aQ mem.ε n (k+1) v).cells=v.cells.map (aQ mem.ε n (k+1)):=FN _ _ _;refine .list _ _ _ b o sz m cap xs (by simpa using lz) dN (Q8 (ye hm n) (Q7 hc)) ?_ (fun i hi j hj=>?_) ?_
   ·intro e he;obtain⟨e',sN,rfl⟩:=fb.1 he;rw[C5,cz];exact aO e' sN
   ·have:=cx i hi j hj;exact⟨(ye hm n).1 _ _ _ this.1,this.2⟩
   ·intro i hi j hj;have ae:i<l.length:=by simpa using hi
    have dI:j<l[i].cells.length:=by simpa[C5]using hj
    have:=ih i ae j dI (lb':=bP);simpa[C5]using this
  |agg _ l a hs h1 _ ih=>
   simp only[aQ,fC,qc]
   refine .agg _ _ a (by simpa using hs) h1 fun i hi ae=>?_;simp only[iQ];exact ih i (by simpa using hi) ae
  |aU _ l a hs _ ih=>
   simp only[aQ,fC,qc]
   refine .aU _ _ a (by simpa using hs) fun i hi ae=>?_;simp only[iQ];exact ih i (by simpa using hi) ae
  |fn _ f f' l m' a b hs ht hy _ _ qC oR=>
   simp only[aQ,fC,qc]
   split
   ·rename_i hf;refine .fn _ f f' _ _ a b (by simpa using hs) (by simpa using ht) ?_ (fun i hi ae=>?_) (fun i hi ae=>?_)
    ·cases f<;>cases f'<;>first|exact hy|exact hy.elim|skip
     simp only[Fn.below,decide_eq_true_eq]at hf;simp only[sh,Gh.fr,Gh.cut,hf,if_true];exact hy
    ·simp only[iQ];exact qC i (by simpa using hi) ae
    ·simp only[iQ];exact oR i (by simpa using hi) ae
   ·exact .cR _ _ rfl
  |eQ=>exact .eQ _
  |iface _ t v x _ ih=>exact .iface _ t _ x ih
  |gq=>exact .gq _
  |map _ id b h=>
   simp only[aQ,fC]
   split
   ·rename_i hi;exact .map _ id b (by simp only[Gh.fr,Gh.cut,hi,if_true];exact h)
   ·exact .cR _ _ rfl
  |fQ=>exact .fQ _
theorem aax{n:Nat}{m':Mem}(hm:aZ g own LC mem w)(h:aZ (g.cut n) (pR n own) LC m' w):aZ (g.fr own w n) (pR n own) LC m' w:=by
 refine h.ba (ye hm n) (fun _ h=>h) (fun _ _ h=>h) (fun id b hb=>⟨rfl,rfl,fun o=>?_⟩) (fun b o x hx=>aaw hm n b o x hx);have h1:=(Bp hb).1;have h2:id<n:=by
  simp only[pR,h1]at hb;split at hb
  ·assumption
  ·cases hb
 simp only[Gh.fr,h1];rw[if_neg (by omega)];rfl
end
def Ph(F:Fence)(n:Nat)(P:Program)(run:Result Next)(w:World)(R:Value->World->Prop):Prop:=
 (∃(f:FuncId) (as:Array Value),run= .ok (.enter f as) w/\CallsIn F n P f as w fun e w'=>∃x,e= .returned x/\R x w')∨
 (∃x w',run= .ok (.value x) w'/\R x w')∨
 (∃(l:Nat) (f:FuncId) (tmps:Array Value) (assign body:Code),run= .ok (.round l f tmps assign body) w∧
  RoundIn F n P l f tmps assign body w fun e w'=>∃x,e= .returned x/\R x w')
def ml(F:Fence)(P:Program)(base:Nat)(LC:eS)(gl:Nat->AV)(f:FuncId)(p:Prim):Prop:=
 ∀(n:Nat) (g:Gh) (own:OW) (mem:Mem) (w:World) (args:List AV) (r:AV) (m':Mem) (bI:Array Value),
  aZ g own LC mem w->bO base own w->mM g gl->PW (VR g bP) args bI.toList->p args mem=some (r,m')→
  Ph F n P ((callFunc f bI).run P w) w (lJ base LC gl g own w r m')
def me(P:Program):eS:=fun N a c=>∃bj,a=kD P bj N false c
structure aG (P:Program) (f:FuncId) (g:AF):Prop where
 ex:∃fn c bj,P.funcs[f]?=some fn/\fn.body=some c/\(fn.name== "runtime.NumGoroutine")=false/\g.code=kD P bj fn.ntmps true c/\xT P fn.results.toList=some g.results
structure EO (F:Fence) (P:Program) (base:Nat) (C:iF):Prop where
 fs:∀f g,C.fs f=some g->aG P f g
 alts:∀f g,C.alts f=some g->aG P f g
 gM:∀f p,C.gM f=some p->ml F P base (me P) C.gl f p
 Ed:∀f p,C.gM f=some p->∀args m r m',p args m=some (r,m')->KM m m'
 OA:∀f p,C.gM f=some p->(∃fn,P.funcs[f]?=some fn/\fn.body.isNone=false/\(fn.name== "runtime.NumGoroutine")=false)∨
  ∀first cap l mem,p ((first++[.fn (.yield l) [] []]++cap).map (exp mem.ε.length (C.ba f))) mem=none
section
variable{F:Fence}{n:Nat}{P:Program}{bj:Nat->Bool}{N:Nat}{gl:Nat->AV}{base:Nat}{LC:eS}{cQ:Nat}{ay:cg}
variable{g:Gh}{lb:LB}{own:OW}{s:St}{a:Act}{w:World}
theorem Kw{C:iF}(hC:EO F P base C):∀k,BS P (cv C k):=by
 intro k;cases k with
 |zero=>intro f first cap l mem r h;simp[cv]at h
 |succ k=>
  intro f first cap l mem r h
  simp only[cv,body]at h;split at h
  ·rename_i p hp;rcases hC.OA f p hp with h1|h1
   ·exact h1
   ·rw[h1]at h;cases h
  ·split at h
   ·rename_i g hg;obtain⟨fn,c,bj,h1,h2,h3,h4,h5⟩:=(hC.fs f g hg).ex;exact⟨fn,h1,by simp[h2],h3⟩
   ·cases h
theorem vF{own:OW}{b id:Nat}(h:own b=some (.m id)):eo own b=some (.m id):=by simp[eo,h]
theorem VZ{own:OW}{b:Nat}(h:own b=none):eo own b=none:=by simp[eo,h]
theorem aZ.eo{mem:Mem}(h:aZ g own LC mem w):aZ g (eo own) LC mem w:=
 h.ba g.eM (fun _ h=>h) (fun _ _ h=>h) (fun id b hb=>⟨by rw[vF hb,hb],rfl,fun _=>rfl⟩) h.im
theorem aZ.EI{mem:Mem}(h:aZ g own LC mem w)(t:List Nat):aZ g own LC {ε:=mem.ε,η:=t} w:=⟨h.jq,h.nj,h.blk,h.im⟩
theorem bO.eo(h:bO base own w):bO base (eo own) w:=⟨fun b o hb=>h.ge b o (uw hb).1,h.base⟩
theorem aaG(args:Array Value)(k t:Nat):(args++ald k undef).getD t undef=args.getD t undef:=by
 simp only[ob,Array.getElem?_append];split
 ·rfl
 ·rename_i h;rw[alc (xs:=args) (by omega)];by_cases h2:t-args.size<k
  ·simp[h2]
  ·simp[h2]
theorem aaI(l:List AV)(t:Nat):br l t=(l[t]?).getD .undef:=by
 induction l generalizing t with
 |nil=>simp[br]
 |cons a l ih=>cases t with
  |zero=>rfl
  |succ t=>simp[br,ih]
theorem Z9{args:List AV}{bI:Array Value}(h:PW (VR g lb) args bI.toList)(k t:Nat):VR g lb (br args t) ((bI++ald k undef).getD t undef):=by
 rw[aaG,aaI,ob];rcases di t args.length with ψ|eH
 ·have eZ:t<bI.size:=by have:=h.1;simp at this;omega
  have:=h.2 t ψ (by simpa using eZ);simpa[ψ,eZ]using this
 ·have Db:bI.size<=t:=by have:=h.1;simp at this;omega
  rw[gW eH,alc Db];exact .undef _
theorem Sa(hF:∀f,F.fn f)(hd:F.depth=none)(vo:F.round=none)(iJ:np F P base (me P) gl ay)(wI:BS P ay)(hK:KC ay){m:Nat}
  {f:FuncId} {fn:Func} {c:Code} (L9:P.funcs[f]?=some fn) (L_:fn.body=some c) {gf:AF} (hf4:gf.code=kD P bj fn.ntmps true c) (hf5:xT P fn.results.toList=some gf.results)
  {mem:Mem} (hm:aZ g own (me P) mem w) (ho:bO base own w) (eB:mM g gl) {args:List AV} {bI:Array Value} (iC:PW (VR g bP) args bI.toList) {ba:Bool} {r:AV} {m':Mem}
  (hx:fin gf ba mem (exec gl ay (fJ m) gf.code {env:=args,loc:=[],mem:= {ε:=mem.ε,η:=[]}})=some (r,m')):
  CallsIn F n P f bI w fun e w'=>∃x,e= .returned x/\lJ base (me P) gl g own w r m' x w':=by
 generalize hex:exec gl ay (fJ m) gf.code _=y at hx;cases y with
 |none=>simp[fin]at hx
 |some y=>
 obtain⟨ex,s'⟩:=y
 have hKM:=x9 hK (E2 m) _ _ _ _ hex;rw[hf4]at hex;have kH:SR gl base fn.ntmps (me P) w.heap.size g bP (eo own) {env:=args,loc:=[],mem:= {ε:=mem.ε,η:=[]}}
   {tmps:=bI++ald (fn.ntmps-bI.size) undef,defers:=[]} w:=by
  refine⟨fun t=>Z9 iC _ t,eB,by simp;omega,Marks.nil (b_ _),hm.eo.EI _,⟨fun d v l h=>(by cases h),fun d v s p h=>(by cases h),fun d v b h=>(by cases h)⟩,ho.eo⟩
 refine callsIn_of_wp_marks L9 L_ (hF f) ?_ vo;refine Kq hF hd iJ wI hK (fun c=>⟨bj,rfl⟩) m c true (fun _=>vo) g bP (eo own) _ ex s' _ w _ kH hex fun g' lb' aD a' w' h1 h2=>?_;have mW:(match cF s' gf.results with
   |some l=>if ba then some (exp s'.mem.ε.length true (cK l),({ε:=s'.mem.ε,η:=mem.η++s'.mem.η}:Mem))
    else some (aQ s'.mem.ε mem.ε.length 8 (cK l),mem.back s'.mem)
   |none=>none)=some (r,m')->LeavesInM F n P fn a'.tmps (fun e w'=>∃x,e=Ending.returned x/\lJ base (me P) gl g own w r m' x w') a'.defers .returning w':=by
  intro hx;obtain⟨h0,ms,yL,TC,mC⟩:=h2.defers;have tR:SR gl base fn.ntmps (me P) w.heap.size g' lb' aD s' {tmps:=a'.tmps,defers:=ms.map zf} w':=by rw[<-TC];exact h2
  rw[TC];refine ai8 (b_ _) ms w' yL mC h1 tR fun w2 k1 k2=>?_;split at hx
  ·rename_i l hl;obtain⟨x,q1,q2⟩:=ah0 k2 hf5 hl;refine⟨x,q1,x,rfl,?_⟩;split at hx
   ·simp only[a_,az]at hx;obtain⟨rfl,rfl⟩:=hx;refine⟨g',eo aD,⟨k1.sub,k1.size,k1.os,k1.tape,k1.output,k1.ba,fun b hb h=>VZ (k1.jD b hb h),k1.im⟩,k2.mem.eo.EI _,(q2.exp _ _).sub (g'.Fp _),k2.own.eo,fun b d hb=>?_,k2.gl⟩;obtain⟨_,id,h⟩:=uw hb;cases h
   ·simp only[a_,az]at hx;obtain⟨rfl,rfl⟩:=hx;have hb:=PR hm (extra:=[]) k2.mem (by rw[List.append_nil];exact hKM);have c_:g.sub (g'.cut mem.ε.length):=by
     refine⟨fun b o y hy=>k1.sub.1 b o y hy,fun id b hb=>?_,fun t k y hy=>?_⟩
     ·simp only[Gh.cut];rw[if_pos (hm.jq id b hb)];exact k1.sub.2.1 _ _ hb
     ·simp only[Gh.cut];rw[if_pos (hm.nj t k y hy)];exact k1.sub.2.2 _ _ _ hy
    refine⟨g'.fr aD w2 mem.ε.length,pR mem.ε.length aD,⟨Gh.BH c_ (ye k2.mem _),k1.size,k1.os,k1.tape,k1.output,k1.ba,fun b hb h=>VY (k1.jD b hb h),fun b hb h o=>?_⟩,aax k2.mem hb,aaC k2.mem _ _ q2,
     ⟨fun b o hb=>k2.own.ge b o (Bp hb).1,k2.own.base⟩,fun b d hb=>?_,eB.mono (Gh.BH c_ (ye k2.mem _))⟩
    ·have hu:=k1.jD b hb h;have:(g'.fr aD w2 mem.ε.length).im b o=g'.im b o:=by simp only[Gh.fr,hu]
     rw[this];exact k1.im b hb h o
    obtain⟨_,id,h⟩:=Bp hb;cases h
  ·cases hx
 cases ex with
 |exit i=>simp[fin]at hx
 |normal=>exact mW hx
 |ret=>exact mW hx
end
section
variable{F:Fence}{n:Nat}{P:Program}{bj:Nat->Bool}{N:Nat}{gl:Nat->AV}{base:Nat}{LC:eS}{cQ:Nat}{ay:cg}
variable{g:Gh}{lb:LB}{own:OW}{s:St}{a:Act}{w:World}
theorem NT{m:Mem}{l:Nat}{st:LS}(h:m.ls l=some st):∃e p q c,m.ε[l]?=some (.loop e p q c st):=by
 unfold Mem.ls at h;split at h
 ·rename_i e p q c aT he;cases h;exact⟨e,p,q,c,he⟩
 ·cases h
theorem WX(hs:SR gl base N LC cQ g lb own s a w){l b:Nat}(hb:g.mb l=some b){nY:LS}(nO:s.mem.ls l=some nY){st:LS}{L L':Loop}(hL:w.heap[b]?=some (.loop L))
  (h1:L'.tmps=L.tmps) (h2:L'.params=L.params) (h3:L'.assign=L.assign) (h4:L'.body=L.body) (Ω:Pk st L'):
  ∃g' lb' aD,ep g own w g' aD (fF w b (.loop L'))/\SR gl base N LC cQ g' lb' aD {s with mem:=s.mem.kM l st} a (fF w b (.loop L')):=by
 obtain⟨e,p,q,c,gG⟩:=NT nO;obtain⟨b',b1,b2,b3,L2,N2,b4,b5,b6,b7,b8,b9,Aa,tI,Cd⟩:=hs.mem.blk l _ gG;rw[hb]at b1;cases b1;rw[hL]at b4;cases b4;have hid:l<s.mem.ε.length:=(fI.1 gG).1;have hp:=Ez (x:= .loop L') (blk:= .loop e p q c st) hs.mem hs.loc hs.own b2 hid b3
  ⟨b,hb,b2,b3,L',N2,BD hL _,by rw[h1];exact b5,by rw[h2];exact b6,by rw[h1];exact b7,b8,by rw[h3];exact b9,by rw[h4];exact Aa,Ω,Cd⟩
 obtain⟨g',lb',aD,k1,k2⟩:=hs.after (dst:=none) rfl hp;refine⟨g',lb',aD,k1,?_⟩;have:s.mem.kM l st=s.mem.put l (.loop e p q c st) true:=by simp only[Mem.kM,gG,Mem.put,if_true]
 rw[this];exact k2
theorem Yh(hs:SR gl base N LC cQ g lb own s a w){l b:Nat}(hb:g.mb l=some b)(nO:s.mem.ls l=some .ready):
  ∃w',(Instr.beginRound b).run P w= .ok () w'/\∃g' lb' aD,ep g own w g' aD w'/\SR gl base N LC cQ g' lb' aD {s with mem:=s.mem.kM l .busy} a w':=by
 obtain⟨e,p,q,c,gG⟩:=NT nO;obtain⟨b',b1,b2,b3,L,N2,b4,b5,b6,b7,b8,b9,Aa,tI,Cd⟩:=hs.mem.blk l _ gG;rw[hb]at b1;cases b1;obtain⟨g',lb',aD,k1,k2⟩:=WX hs hb nO (st:= .busy) (L':= {L with state:= .busy}) b4 rfl rfl rfl rfl rfl;refine⟨_,?_,g',lb',aD,k1,k2⟩;have q1:(getObj b).run P w= .ok (.loop L) w:=by simp only[getObj,Sem.run,b4]
 have q2:∀y,(setObj b y).run P w= .ok () (fF w b y):=fun y=>by simp only[setObj,Sem.run,b4];rfl
 simp only[Instr.beginRound,Instr.getLoop,Sem.run_bind,q1,Result.andThen_ok,Sem.run_pure,q2,tI.1]
theorem Z8(hs:SR gl base N LC cQ g lb own s a w){l b:Nat}(hb:g.mb l=some b)(nO:s.mem.ls l=some .busy){jump:Option Code}{st:LS}
  (hj:(jump=none/\st= .ready)\/(jump=some .ret/\st= .done none)\/∃i,jump=some (.exit i)/\st= .done (some i)):
  ∃w',(Instr.endRound b jump).run P w= .ok (.bool jump.isNone) w'/\∃g' lb' aD,ep g own w g' aD w'/\SR gl base N LC cQ g' lb' aD {s with mem:=s.mem.kM l st} a w':=by
 obtain⟨e,p,q,c,gG⟩:=NT nO;obtain⟨b',b1,b2,b3,L,N2,b4,b5,b6,b7,b8,b9,Aa,tI,Cd⟩:=hs.mem.blk l _ gG;rw[hb]at b1;cases b1;obtain⟨g',lb',aD,k1,k2⟩:=WX hs hb nO (st:=st) (L':= {L with state:=if jump.isNone then .ready else .done,pending:=jump}) b4 rfl rfl rfl rfl (by
  rcases hj with⟨rfl,rfl⟩|⟨rfl,rfl⟩|⟨i,rfl,rfl⟩
  ·exact⟨rfl,rfl⟩
  ·exact⟨rfl,trivial⟩
  ·exact⟨rfl,rfl⟩)
 refine⟨_,?_,g',lb',aD,k1,k2⟩;have q1:(getObj b).run P w= .ok (.loop L) w:=by simp only[getObj,Sem.run,b4]
 have q2:∀y,(setObj b y).run P w= .ok () (fF w b y):=fun y=>by simp only[setObj,Sem.run,b4];rfl
 simp only[Instr.endRound,Instr.getLoop,Sem.run_bind,q1,Result.andThen_ok,Sem.run_pure,q2]
theorem aiR{N:Nat}:∀(ps:List Nat) (args:List AV) (bI:List Value) (env:List AV) (tmps:Array Value),ps.length=args.length->PW (VR g bP) args bI->N<=tmps.size->(∀p∈ps,p<N)→
  (∀t,VR g bP (br env t) (tmps.getD t undef))→
  (∀t,VR g bP (br (vJ env ps args) t) (((ps.zip bI).foldl (fun tmps (x:Nat×Value)=>tmps.setIfInBounds x.1 x.2) tmps).getD t undef))∧
   N<=((ps.zip bI).foldl (fun tmps (x:Nat×Value)=>tmps.setIfInBounds x.1 x.2) tmps).size:=by
 intro ps;induction ps with
 |nil=>
  intro args bI env tmps hl cI hN hp hv
  cases args with
  |nil=>exact⟨by simpa[vJ]using hv,by simpa using hN⟩
  |cons a args=>simp at hl
 |cons p ps ih=>
  intro args bI env tmps hl cI hN hp hv
  cases args with
  |nil=>simp at hl
  |cons x args=>
   cases bI with
   |nil=>exact absurd cI.1 (by simp)
   |cons y bI=>
    simp only[vJ,List.zip_cons_cons,List.foldl_cons]
    refine ih args bI (mL env p x) (tmps.setIfInBounds p y) (by simpa using hl) ⟨by simpa using cI.1,fun i hi ae=>by have:=cI.2 (i+1) (by simpa using hi) (by simpa using ae);simpa using this⟩ (by simpa using hN) (fun q hq=>hp q (xG _ hq)) fun t=>?_;rw[fM,ob,ak9];have dS:=hp p (by simp);by_cases MO:p=t
    ·subst MO;rw[if_pos rfl,if_pos rfl,if_pos (by omega)];exact cI.2 0 (by simp) (by simp)
    ·rw[if_neg MO,if_neg MO,<-ob];exact hv t
theorem np.inRound(h:np F P base LC gl ay)(b:Nat):np (F.inRound b) P base LC gl ay:=
 fun n g lb own mem w fv args r m' fx bI h1 h2 h3 h4 h5 h6=>h n g lb own mem w fv args r m' fx bI h1 h2 h3 h4 h5 h6
theorem ah5(hF:∀f,F.fn f)(hd:F.depth=none)(iJ:np F P base (me P) gl ay)(wI:BS P ay)(hK:KC ay){m:Nat}
  {l b:Nat} (hb:g.mb l=some b) {mem:Mem} (hm:aZ g own (me P) mem w) (ho:bO base own w) (eB:mM g gl) {args:List AV} {bI:Array Value} (iC:PW (VR g lb) args bI.toList) {r:AV} {m':Mem}
  (hx:round (exec gl ay (fJ m)) l args mem=some (r,m')):
  ∃nE tmps fK v7,(Instr.yield b bI).run P w= .ok (.round b nE tmps fK v7) w∧
   RoundIn F n P b nE tmps fK v7 w fun e w'=>∃x,e= .returned x/\lJ base (me P) gl g own w r m' x w':=by
 unfold round at hx;split at hx
 ·rename_i env ps fK body st gG;split at hx
  ·rename_i hlen;split at hx
   ·rename_i s1 To;split at hx
    ·rename_i abz;obtain⟨b',b1,b2,b3,L,N,b4,b5,b6,b7,b8,b9,Aa,tI,Cd⟩:=hm.blk l _ gG;rw[hb]at b1;cases b1;obtain⟨aaa,Hr⟩:=b9;obtain⟨aab,lT⟩:=Aa;have aO:args.length=bI.size:=by simpa using iC.1
     have nI:PW (VR g bP) (args.map (exp mem.ε.length false)) bI.toList:=iC.map _ fun a b h=>(h.exp _ _).sub (g.Fp _);obtain⟨v1,v2⟩:=aiR ps (args.map (exp mem.ε.length false)) bI.toList env L.tmps (by simpa using hlen) nI b7 b8 b5;have abj:(L.params.zip bI).foldl (fun tmps (x:Nat×Value)=>tmps.setIfInBounds x.1 x.2) L.tmps=(ps.zip bI.toList).foldl (fun tmps (x:Nat×Value)=>tmps.setIfInBounds x.1 x.2) L.tmps:=by rw[<-Array.foldl_toList,Array.toList_zip,b6]
     refine⟨L.fn,(ps.zip bI.toList).foldl (fun tmps (x:Nat×Value)=>tmps.setIfInBounds x.1 x.2) L.tmps,L.assign,L.body,?_,roundIn_of_wpIn (hF _) ?_⟩
     ·have q1:(getObj b).run P w= .ok (.loop L) w:=by simp only[getObj,Sem.run,b4]
      have dd:bI.size=L.params.size:=by rw[b6];simp;omega
      simp only[Instr.yield,Instr.getLoop,Sem.run_bind,q1,Result.andThen_ok,Sem.run_pure];rw[if_neg (by simp[dd]),<-abj];rfl
     ·have kH:SR gl base N (me P) w.heap.size g bP (eo own) {env:=vJ env ps (args.map (exp mem.ε.length false)),loc:=[],mem:=mem}
        {tmps:=(ps.zip bI.toList).foldl (fun tmps (x:Nat×Value)=>tmps.setIfInBounds x.1 x.2) L.tmps,defers:=[]} w:=
       ⟨v1,eB,v2,Marks.nil (b_ _),hm.eo,⟨fun d v l h=>(by cases h),fun d v s p h=>(by cases h),fun d v b h=>(by cases h)⟩,ho.eo⟩
      rw[Hr]at To;refine Kq (F:=F.inRound b) hF hd (iJ.inRound b) wI hK (fun c=>⟨aaa,rfl⟩) m L.assign false (by simp) g bP (eo own) _ .normal s1 _ w _ kH To fun g1 vz ur a1 w1 h1 h2=>?_;obtain⟨w2,oF,g2,D0,pQ,h3,h4⟩:=Yh (P:=P) h2 (h1.sub.2.1 _ _ hb) abz;refine⟨w2,oF,?_⟩;have fin:∀(ex:Ex) (s2:St) (jump:Option Code) (aT:LS),((jump=none/\aT= .ready)\/(jump=some .ret/\aT= .done none)\/∃i,jump=some (.exit i)/\aT= .done (some i))→
        exec gl ay (fJ m) body {s1 with mem:=s1.mem.kM l .busy}=some (ex,s2)->s2.mem.ls l=some .busy->r= .bool jump.isNone->m'=s2.mem.kM l aT→
        (∀a3 w3,(∃v w',(Instr.endRound b jump).run P w3= .ok v w'/\∃x,Ending.returned v= .returned x/\lJ base (me P) gl g own w r m' x w')→
         roundPost P b (fun e w'=>∃x,e= .returned x/\lJ base (me P) gl g own w r m' x w') ex.Ar a3 w3)→
        L.body.wpIn (F.inRound b) n P (roundPost P b fun e w'=>∃x,e= .returned x/\lJ base (me P) gl g own w r m' x w') a1 w2:=by
       intro ex s2 jump aT hj wH yF hr lz oQ;rw[lT]at wH;refine Kq (F:=F.inRound b) hF hd (iJ.inRound b) wI hK (fun c=>⟨aab,rfl⟩) m L.body false (by simp) g2 D0 pQ _ ex s2 _ w2 _ h4 wH fun g3 lb3 uu a3 w3 h5 h6=>?_;obtain⟨w4,AR,g4,lb4,agc,h7,h8⟩:=Z8 (P:=P) h6 (h5.sub.2.1 _ _ (h3.sub.2.1 _ _ (h1.sub.2.1 _ _ hb))) yF hj;refine oQ a3 w3 ⟨_,w4,AR,_,rfl,?_⟩;have k:=((h1.trans h3).trans h5).trans h7;subst hr lz;refine⟨g4,eo agc,⟨k.sub,k.size,k.os,k.tape,k.output,k.ba,fun b hb h=>VZ (k.jD b hb h),k.im⟩,h8.mem.eo,.bool _ _,h8.own.eo,fun b d hb=>?_,h8.gl⟩;obtain⟨_,id,h⟩:=uw hb;cases h
      split at hx
      ·rename_i s2 wH;split at hx
       ·rename_i yF;cases hx;exact fin .normal s2 none .ready (.inl ⟨rfl,rfl⟩) wH yF rfl rfl fun a3 w3 h=>h
       ·cases hx
      ·rename_i s2 wH;split at hx
       ·rename_i yF;cases hx;exact fin .ret s2 (some .ret) (.done none) (.inr (.inl ⟨rfl,rfl⟩)) wH yF rfl rfl fun a3 w3 h=>h
       ·cases hx
      ·rename_i i s2 wH;split at hx
       ·rename_i yF;cases hx;exact fin (.exit i) s2 (some (.exit i)) (.done (some i)) (.inr (.inr ⟨i,rfl,rfl⟩)) wH yF rfl rfl fun a3 w3 h=>h
       ·cases hx
      ·cases hx
    ·cases hx
   ·cases hx
  ·cases hx
 ·cases hx
theorem Rn(hF:∀f,F.fn f)(hd:F.depth=none)(vo:F.round=none){C:iF}(hC:EO F P base C):∀k,np F P base (me P) C.gl (cv C k):=by
 intro k;induction k with
 |zero=>intro n g lb own mem w fv args r m' fx bI _ _ _ _ _ h;simp[cv]at h
 |succ k ih=>
  intro n g lb own mem w fv args r m' fx bI hm ho eB C' iC hx
  simp only[cv,body]at hx;split at hx
  ·rename_i f first cap
   obtain⟨As,Bs,rfl,LA,LF⟩:∃As Bs,fx= .func (.func f) As Bs/\PW (VR g lb) first As.toList/\PW (VR g lb) cap Bs.toList:=by
    cases C' with
    |fn _ _ f2 _ _ As Bs hs ht hy hv hw=>
     cases f2<;>first|exact hy.elim|skip
     cases hy;exact⟨As,Bs,rfl,⟨by simpa using hs.symm,fun i hi ae=>by simpa using hv i hi (by simpa using ae)⟩,⟨by simpa using ht.symm,fun i hi ae=>by simpa using hw i hi (by simpa using ae)⟩⟩
   have dT:(do let d<-Deferred.ofValue (.func (.func f) As Bs) bI;invoke d.target d.args:Sem Next).run P w=(callFunc f (As++bI++Bs)).run P w:=by simp only[Deferred.ofValue,Sem.run_bind,Sem.run_pure,Result.andThen_ok,invoke]
   have jU:PW (VR g bP) ((first++args++cap).map (exp mem.ε.length (C.ba f))) (As++bI++Bs).toList:=by have:=(LA.append iC).append LF;simp only[ale];exact this.map _ fun a b h=>(h.exp _ _).sub (g.Fp _)
   unfold tB;rw[dT];split at hx
   ·rename_i p hp;exact hC.gM f p hp n g own mem w _ r m' _ hm ho eB jU hx
   ·split at hx
    ·rename_i gf hg;obtain⟨fn,c,bj,h1,h2,h3,h4,h5⟩:=(hC.fs f gf hg).ex;exact .inl ⟨f,_,Eo h1 (by simp[h2]) h3,Sa hF hd vo ih (Kw hC k) (Kv C hC.Ed k) h1 h2 h4 h5 hm ho eB jU hx⟩
    ·cases hx
  ·rename_i f nm first cap
   obtain⟨As,Bs,rfl,LA,LF⟩:∃As Bs,fx= .func (.func f) As Bs/\PW (VR g lb) first As.toList/\PW (VR g lb) cap Bs.toList:=by
    cases C' with
    |fn _ _ f2 _ _ As Bs hs ht hy hv hw=>
     cases f2<;>first|exact hy.elim|skip
     cases hy;exact⟨As,Bs,rfl,⟨by simpa using hs.symm,fun i hi ae=>by simpa using hv i hi (by simpa using ae)⟩,⟨by simpa using ht.symm,fun i hi ae=>by simpa using hw i hi (by simpa using ae)⟩⟩
   have dT:(do let d<-Deferred.ofValue (.func (.func f) As Bs) bI;invoke d.target d.args:Sem Next).run P w=(callFunc f (As++bI++Bs)).run P w:=by simp only[Deferred.ofValue,Sem.run_bind,Sem.run_pure,Result.andThen_ok,invoke]
   have jU:PW (VR g bP) ((first++args++cap).map (exp mem.ε.length true)) (As++bI++Bs).toList:=by have:=(LA.append iC).append LF;simp only[ale];exact this.map _ fun a b h=>(h.exp _ _).sub (g.Fp _)
   unfold tB;rw[dT];split at hx
   ·rename_i gf hg;obtain⟨fn,c,bj,h1,h2,h3,h4,h5⟩:=(hC.alts f gf hg).ex;exact .inl ⟨f,_,Eo h1 (by simp[h2]) h3,Sa hF hd vo ih (Kw hC k) (Kv C hC.Ed k) h1 h2 h4 h5 hm ho eB jU hx⟩
   ·cases hx
  ·rename_i l;obtain⟨b,rfl,hb⟩:∃b,fx= .func (.yield b) #[] #[]/\g.mb l=some b:=by
    cases C' with
    |fn _ _ f2 _ _ As Bs hs ht hy hv hw=>
     cases f2<;>first|exact hy.elim|skip
     have e1:As= #[]:=Jn.1 hs;have e2:Bs= #[]:=Jn.1 ht;subst e1 e2;exact⟨_,rfl,hy⟩
   obtain⟨nE,tmps,fK,v7,h1,h2⟩:=ah5 (n:=n) hF hd ih (Kw hC k) (Kv C hC.Ed k) hb hm ho eB iC hx;refine .inr (.inr ⟨b,nE,tmps,fK,v7,?_,h2⟩);simp only[Deferred.ofValue,Sem.run_bind,Sem.run_pure,Result.andThen_ok,invoke];have:(#[]++bI:Array Value)=bI:=by simp
   rw[this];exact h1
  ·cases hx
end
end Go.Δ
