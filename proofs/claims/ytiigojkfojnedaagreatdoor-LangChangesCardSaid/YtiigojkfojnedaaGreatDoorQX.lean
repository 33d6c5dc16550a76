import Derived.Test.YtiigojkfojnedaaGreatDoorQR
import Derived.RangeFuncLeaves
set_option linter.unusedVariables false
set_option linter.unusedSimpArgs false
set_option maxRecDepth 100000
set_option maxHeartbeats 8000000
open Nat renaming le_refl->bF,add_comm->yQ,strongRecOn->aib,lt_or_ge->bP,add_mul->kM
open List renaming range->rC,getElem?_eq_some_iff->kg,getD_eq_getElem?_getD->kJ,getElem?_eq_none->gZ,all_eq_true->gu,getElem_map->iz,getElem_mem->cL,mem_cons->dO,mem_iff_getElem->qo,nodup_cons->wY,mem_cons_of_mem->AQ,map_cons->ay,map_nil->aA,mem_map->jy,length_take->mf,length_drop->kK,length_map->dd
open Array renaming getElem?_eq_getElem->vj,getElem?_eq_none->aic,getElem?_eq_some_iff->yO,replicate->aid,getElem?_setIfInBounds_ne->Ic,getD_eq_getD_getElem?->rz,size_eq_zero_iff->Ie
open Option renaming getD_some->AU,map_eq_some_iff->bH
open Bool renaming and_eq_true->jv,false_eq_true->gY
open Option.some renaming injEq->aZ
open Prod.mk renaming injEq->aN
open Go.World renaming cell?->ti
namespace Go.ah
section
variable{F:Fence}{n:Nat}{P:Program}{bJ:Nat->Bool}{N:Nat}{gl:Nat->AV}{base:Nat}{LC:eN}{cN:Nat}{aF:cx}
variable{ops:Array Oper}{Q:Exit->Act->World->Prop}
theorem SR.congr{g:Gh}{lb:LB}{own:OW}{s s':St}{a:Act}{w:World}(h:SR gl base N LC cN g lb own s a w)(hr:∀r,agree r s s'):SR gl base N LC cN g lb own s' a w:= {
 env t:=by have:=hr (.env t);simp only[agree]at this;rw[<-this];exact h.env t
 gl:=h.gl
 size:=h.size
 defers:=h.defers
 mem:=by have:=hr .mem;simp only[agree]at this;rw[<-this];exact h.mem
 loc:=by have:τ s.loc=τ s'.loc:=funext fun d=>hr (.loc d);rw[<-this];exact h.loc
 own:=h.own}
theorem SR.drawn{g:Gh}{lb:LB}{own:OW}{s:St}{a:Act}{w:World}(h:SR gl base N LC cN g lb own s a w)(d:Nat):
  SR gl base N LC cN g lb own s a {w with drawn:=d}/\dZ g own w g own {w with drawn:=d}:=by
 refine⟨⟨h.env,h.gl,h.size,h.defers.bw (g:=g) (g':=g) ⟨g.eG,bF _,rfl,rfl,rfl,fun _ _ _=>rfl,fun _ _ h=>h,fun _ _ _ _=>rfl⟩,?_,?_,?_⟩,g.eG,bF _,rfl,rfl,rfl,fun _ _ _=>rfl,fun _ _ h=>h,fun _ _ _ _=>rfl⟩
 ·exact⟨h.mem.iR,h.mem.na,fun id blk hb=>(h.mem.blk id blk hb).bw g.eG (fun _ _=>⟨rfl,rfl,fun _=>rfl⟩) (fun _ h=>h) (fun h=>h),fun b o x hx=>(ph (w:=w) rfl).trans (h.mem.im b o x hx)⟩
 ·exact⟨fun d v l hd=>by
    obtain⟨b,h1,h2⟩:=h.loc.cells d v l hd
    exact⟨b,h1,h2.bw g.eG (fun _ _ _ h=>h) rfl rfl fun _=>rfl⟩,h.loc.iter,h.loc.vh⟩
 ·exact⟨h.own.ge,h.own.base⟩
theorem aei(hF:∀f,F.fn f)(hd:F.depth=none)(iH:np F P base LC gl aF){l:List aT}(hc:tv P bJ N ops ops.toList=some l):
  ∀(m k:Nat) (g:Gh) (lb:LB) (own:OW) (s s':St) (a:Act) (w:World),k+m=ops.size->SR gl base N LC cN g lb own s a w->ed gl aF (l.drop k) s=some s'→
   (∀g' lb' aO a' w',dZ g own w g' aO w'->SR gl base N LC cN g' lb' aO s' a' w'->Q .normal a' w')->wpOpsIn F n P ops Q ((rC m).map (·+k)) a w:=by
 intro m;induction m with
 |zero=>
  intro k g lb own s s' a w hk hs hx hQ
  have hlen:=Pe hc;rw[List.drop_of_length_le (by simp at hlen;omega)]at hx;cases hx;simpa[wpOpsIn]using hQ _ _ _ _ _ (dZ.refl _ _ _) hs
 |succ m ih=>
  intro k g lb own s s' a w hk hs hx hQ
  have da:k<ops.size:=by omega
  obtain⟨o',mU,dS⟩:=Pd hc (i:=k) (o:=ops[k]) (by simp[da]);have ρ:=(kg.1 mU).1;have ZZ:=(kg.1 mU).2;rw[List.drop_eq_getElem_cons ρ,ZZ]at hx;simp only[ed]at hx;split at hx
  ·rename_i s1 ψ;have hr:(rC (m+1)).map (·+k)=k::(rC m).map (·+(k+1)):=by rw[List.range_succ_eq_map];simp[List.map_map,Function.comp_def,Nat.add_assoc,yQ 1 k]
   rw[hr,wpOpsIn_cons];refine TZ hF hd iH (vj da) dS hs ψ fun g' lb' aO a' w' h1 h2=>?_;exact ih (k+1) g' lb' aO s1 s' a' w' (by omega) h2 hx fun g2 CM wH a2 w2 h3 h4=>hQ _ _ _ _ _ (h1.trans h3) h4
  ·cases hx
def kF(listed:Array Bool)(j:Nat):Prop:=listed.getD j false=true
theorem Sy{listed:Array Bool}{i:Nat}(hi:i<listed.size)(j:Nat):kF (listed.setIfInBounds i true) j↔kF listed j\/j=i:=by
 unfold kF;by_cases h:i=j
 ·subst h;simp[hi]
 ·rw[getD_set_ne false h];exact⟨.inl,fun h'=>h'.resolve_right fun e=>h e.symm⟩
theorem SL{listed:Array Bool}{i:Nat}(hi:i<listed.size):¬kF listed i↔listed.getD i true=false:=by unfold kF;simp[hi]
theorem Wc(he:pn ops.toList 0=true){listed:Array Bool}(er:∀i o,ops[i]?=some o->kF listed i->∀e∈o.after,Region.binds .any e=true->kF listed e.on)
  (bh:listed.size=ops.size):∀j i,i∈(iw ops).getD j []->kF listed j->kF listed i:=by
 intro j;induction j using aib with
 |_ j ih=>
  intro i hi hj
  have uH:j<ops.size:=by
   rcases bP j ops.size with h|h
   ·exact h
   ·unfold kF at hj;simp[aic (bh▸h)]at hj
  obtain⟨e,h1,h2,h3,h4⟩:=Mn he (vj uH) hi;have:=er j _ (vj uH) hj e h1 h2;rcases h4 with rfl|h4
  ·exact this
  ·exact ih e.on h3 i h4 this
theorem aeS(he:pn ops.toList 0=true):∀j i,i∈(iw ops).getD j []->i<j:=by
 intro j;induction j using aib with
 |_ j ih=>
  intro i hi
  rcases bP j ops.size with uH|uH
  ·obtain⟨e,h1,h2,h3,h4⟩:=Mn he (vj uH) hi;rcases h4 with rfl|h4
   ·exact h3
   ·have:=ih e.on h3 i h4;omega
  ·obtain⟨rest,h1,h2⟩:=Tj ops.toList [];have hl:(iw ops).length=ops.size:=by simp[iw,h1,h2]
   rw[kJ,gZ (by omega)]at hi;simp at hi
theorem aaF{l:List aT}{j:Nat}{o:aT}(h:l[j]?=some o)(hc:o.cls= .mz true):dy l j=true:=by
 simp only[dy,h];obtain⟨dst,op,gd⟩:=o;cases op with
 |alloc g z=>cases g<;>cases dst<;>simp[aT.cls]at hc
 |box g n x=>cases g<;>cases dst<;>simp[aT.cls]at hc
 |qd x=>cases dst<;>simp[aT.cls]at hc
 |st=>rfl
 |_=>simp[aT.cls]at hc
theorem aej{l:List aT}{s:St}{tr:List St}(he:pn ops.toList 0=true)(ab:Bj l (iw ops)=true)(zW:dF gl aF l s=some tr)
  (QD:(rh l (iw ops) pY yg).all (fun p=>dm gl l tr p.1 p.2)=true) (Yg:(rh l (iw ops) Aa pY).all (fun p=>vC gl l tr p.1 p.2)=true):
  Trace gl aF l (fun i=>tr.getD i s)/\Iw gl l (fun i=>tr.getD i s) (fun i j=>i∈(iw ops).getD j []):=by
 obtain⟨h1,h2,h3⟩:=Ny zW;have hT:Trace gl aF l (fun i=>tr.getD i s):=by refine⟨fun i o ho=>?_⟩;obtain⟨a,b,k1,k2,k3⟩:=h3 i o ho;simpa[kJ,k1,k2]using k3
 have GH:∀i j,¬i∈(iw ops).getD j []->¬j∈(iw ops).getD i []->cmp (iw ops) i j=false:=by intro i j h h';simp only[cmp,Bool.or_eq_false_iff];exact⟨by simpa using h,by simpa using h'⟩
 refine⟨hT,⟨fun i j h=>aeS he j i h,?_,?_,?_,?_⟩⟩
 ·intro i j oi oj hi hj ak n1 n2;have aj:=(kg.1 hi).1;have dp:=(kg.1 hj).1;simp only[Bj,gu,List.mem_range]at ab;have:=ab j dp i aj;simpa[ak,GH i j n1 n2,hi,hj]using this
 ·intro i j oi oj ag m a hi hj Ω er n1 n2 hw id off hp;have ca:=L4 (p:=pY) (q:=yg) hi hj (by rw[Bf Ω];rfl) (by rcases er with er|er<;>(rw[er];rfl)) (GH i j n1 n2);have jG:=gu.1 QD _ ca;obtain⟨si,_,k1,_,_⟩:=h3 i oi hi;obtain⟨sj,Dg,k3,k4,_⟩:=h3 j oj hj;simp only[kJ,k1,k3,k4,AU]at hw hp⊢;simp only[dm,hi,k1,k3,k4]at jG;split at jG
  ·rename_i Lj;exact absurd Lj hw
  ·rename_i UR m' a' Cj _;rw[Ω]at Cj;cases Cj;rw[hp]at jG;simp only[jv]at jG;exact⟨Eh jG.1,Eh jG.2⟩
  ·cases jG
 ·intro i j oi oj ag m a hi hj Ω er n1 n2 hw d v off hp;have ca:=L4 (p:=pY) (q:=yg) hi hj (by rw[Bf Ω];rfl) (by rw[er];rfl) (GH i j n1 n2);have jG:=gu.1 QD _ ca;obtain⟨si,_,k1,_,_⟩:=h3 i oi hi;obtain⟨sj,Dg,k3,k4,_⟩:=h3 j oj hj;simp only[kJ,k1,k3,k4,AU]at hw hp⊢;simp only[dm,hi,k1,k3,k4]at jG;split at jG
  ·rename_i Lj;exact absurd Lj hw
  ·rename_i UR m' a' Cj _;rw[Ω]at Cj;cases Cj;rw[hp]at jG;simp only[aaF hj er,Bool.not_true,Bool.false_or,jv]at jG;exact⟨Eh jG.1,Eh jG.2⟩
  ·cases jG
 ·intro i j oi oj ag m a d hi hj Ω er n1 n2 v off hp;have ca:=L4 (p:=Aa) (q:=pY) hi hj (by rw[er];rfl) (by rw[Bf Ω];rfl) (GH i j n1 n2);have jG:=gu.1 Yg _ ca;obtain⟨sj,Dg,k3,k4,_⟩:=h3 j oj hj;simp only[kJ,k3,AU]at hp;simp only[vC,hi,hj,k3,Ω,hp,adx er]at jG;simp at jG
theorem U2(hF:∀f,F.fn f)(hd:F.depth=none)(iH:np F P base LC gl aF){l:List aT}(hc:tv P bJ N ops ops.toList=some l){T:Nat->St}
  (he:pn ops.toList 0=true) (hT:Trace gl aF l T) (hO:Iw gl l T (fun i j=>i∈(iw ops).getD j [])):
  ∀(fuel:Nat) (listed:Array Bool) (g:Gh) (lb:LB) (own:OW) (s:St) (a:Act) (w:World),listed.size=ops.size->listed.countP (fun b=>!b)<=fuel→
   (∀i o,ops[i]?=some o->kF listed i->∀e∈o.after,Region.binds .any e=true->kF listed e.on)->Inv l T (kF listed) s->SR gl base N LC cN g lb own s a w→
   (∀g' lb' aO a' w',dZ g own w g' aO w'->SR gl base N LC cN g' lb' aO (T l.length) a' w'->Q .normal a' w')->wpAnyIn F n P .any ops Q fuel listed a w:=by
 have hlen:=Pe hc;simp only[Array.length_toList]at hlen;have pC:∀(listed:Array Bool) (g:Gh) (lb:LB) (own:OW) (s:St) (a:Act) (w:World),listed.size=ops.size->Inv l T (kF listed) s->SR gl base N LC cN g lb own s a w→
   (∀g' lb' aO a' w',dZ g own w g' aO w'->SR gl base N LC cN g' lb' aO (T l.length) a' w'->Q .normal a' w')->Region.ready .any ops listed=[]->Q .normal a w:=by
  intro listed g lb own s a w bh hI hs hQ hr;have oM:∀i,i<ops.size->kF listed i:=by
   intro i;induction i using aib with
   |_ i ih=>
    intro hi
    refine Classical.byContradiction fun hn=>?_;have:i∈Region.ready .any ops listed:=by refine mem_ready.2 ⟨(SL (by omega)).1 hn,_,vj hi,fun e hm hb=>?_⟩;have:=WM he (i:=i) (o:=ops[i]) (by simp[hi]) e hm hb;exact ih e.on (by omega) (by omega)
    rw[hr]at this;cases this
  refine hQ _ _ _ _ _ (dZ.refl _ _ _) (hs.congr fun r=>hI r l.length (bF _) (fun j o hj _ _=>oM j (by omega)) fun j o hj ho _ _=>?_);have:=(kg.1 ho).1;omega
 intro fuel;induction fuel with
 |zero=>
  intro listed g lb own s a w bh nF er hI hs hQ
  have hr:Region.ready .any ops listed=[]:=by
   refine List.eq_nil_iff_forall_not_mem.2 fun i hi=>?_;obtain⟨h1,o,h2,_⟩:=mem_ready.1 hi;have ρ:i<listed.size:=by rw[bh];exact(yO.1 h2).1
   have h0:listed.countP (fun b=>!b)=0:=by omega
   rw[Array.countP_eq_zero]at h0;have:=h0 listed[i] (Array.getElem_mem ρ);simp[ρ]at h1;simp[h1]at this
  exact⟨hr,pC listed g lb own s a w bh hI hs hQ hr⟩
 |succ fuel ih=>
  intro listed g lb own s a w bh nF er hI hs hQ
  refine⟨pC listed g lb own s a w bh hI hs hQ,fun i hi=>?_⟩;obtain⟨h1,o,h2,h3⟩:=mem_ready.1 hi;have ρ:i<listed.size:=by rw[bh];exact(yO.1 h2).1
  have ya:¬kF listed i:=(SL ρ).2 h1;obtain⟨o',mU,dS⟩:=Pd hc (i:=i) (o:=o) (by simpa using h2);have QE:=Wc he er bh;have G1:∀j,j∈(iw ops).getD i []->kF listed j:=by
   intro j hj;obtain⟨e,k1,k2,k3,k4⟩:=Mn he h2 hj;have:=h3 e k1 k2;rcases k4 with rfl|k4
   ·exact this
   ·exact QE _ _ k4 this
  obtain⟨s1,k1,k2⟩:=aek hT hO hI (fun i j h h'=>QE j i h h') mU ya G1;refine TZ hF hd iH h2 dS hs k1 fun g' lb' aO a' w' h4 h5=>?_;refine ih _ g' lb' aO s1 a' w' (by simpa using bh) ?_ ?_ ?_ h5 fun g2 CM wH a2 w2 h6 h7=>hQ _ _ _ _ _ (h4.trans h6) h7
  ·have hx:listed[i]=false:=by simpa[ρ]using h1
   rw[Array.setIfInBounds_def,dif_pos ρ,Array.countP_set];simp[hx];omega
  ·intro j oj hj hl e hm hb;rw[Sy ρ]at hl⊢;rcases hl with hl|rfl
   ·exact .inl (er j oj hj hl e hm hb)
   ·rw[h2]at hj;cases hj;exact .inl (h3 e hm hb)
  ·have:kF (listed.setIfInBounds i true)=fun j=>kF listed j\/j=i:=funext fun j=>propext (Sy ρ j);rw[this];exact k2
end
section
variable(P:Program)(bJ:Nat->Bool)(N:Nat)
def ae1(l:List aT):List Nat:=l.filterMap fun o=>match o.op with
 | .alloc true _| .box true _ _=>o.dst
 |_=>none
def IU(ops:Array Oper)(draw:Bool):AC:=match tv P bJ N ops ops.toList with
 |some l=>if draw then(if P.follows .mixedOrders&&pn ops.toList 0&&Bj l (iw ops)then .draw l (rh l (iw ops) pY yg) (rh l (iw ops) Aa pY)else
   match tv P (fun _=>false) N ops ops.toList with
   |some l'=>if P.follows .mixedOrders&&pn ops.toList 0&&Bj l' (iw ops)then .seq (.draw l' (rh l' (iw ops) pY yg) (rh l' (iw ops) Aa pY)) (.C3 (ae1 l))else .bad
   |none=> .bad)else .ops l
 |none=> .bad
def kj:Bool->Code->AC
 |_,.skip=> .skip
 |_,.region _ ops draw=>IU P bJ N ops draw
 |rf,.seq a b=> .seq (kj rf a) (kj rf b)
 |rf,.cond x a b=>match cm x with
  |some x=> .cond x (kj rf a) (kj rf b)
  |none=> .bad
 |rf,.block id a=> .block id (kj rf a)
 |rf,.loop a=> .loop (kj rf a)
 |_,.exit id=> .exit id
 |_,.ret=> .ret
 |_,.label _=> .skip
 |rf,.scope a=>kj rf a
 |rf,.rangeFunc f ps fL body=>match cm f with
  |some f=>if rf&&ps.toList.all (fun p=>decide (p<N))then .wP f ps.toList (kj false fL) (kj false body)else .bad
  |none=> .bad
 |_,_=> .bad
end
def Ex.zg:Ex->Exit
 | .normal=> .normal
 | .exit i=> .exit i
 | .ret=> .ret
section
variable{F:Fence}{n:Nat}{P:Program}{bJ:Nat->Bool}{N:Nat}{gl:Nat->AV}{base:Nat}{LC:eN}{cN:Nat}{aF:cx}
theorem ae0{d:Nat}{g:Gh}{lb:LB}{own:OW}{s s':St}{a:Act}{w:World}(hs:SR gl base N LC cN g lb own s a w)(h:C4 d s=some s'):
  ∃g' aO,dZ g own w g' aO w/\SR gl base N LC cN g' lb aO s' a w:=by
 unfold C4 at h;split at h
 ·rename_i d' v hd;split at h
  ·rename_i v' l hl;split at h
   ·rename_i YN;obtain⟨rfl,rfl⟩:=YN;cases h;obtain⟨b,hb,hc⟩:=hs.loc.cells _ _ _ hl;have Cf:g.mb s.mem.ε.length=none:=by
     cases hx:g.mb s.mem.ε.length with
     |none=>rfl
     |some y=>have:=hs.mem.iR _ _ hx;omega
    let mH:Nat->Option Nat:=fun id=>if id=s.mem.ε.length then some b else g.mb id;let aO:OW:=fun b'=>if b'=b then some (.m s.mem.ε.length)else own b';have dH:g.sub {g with mb:=mH}:=⟨fun _ _ _ h=>h,fun id c hc=>by simp only[mH];rw[if_neg (fun he=>by rw[he,Cf]at hc;cases hc)];exact hc,fun _ _ _ h=>h⟩;have ψ:dZ g own w {g with mb:=mH} aO w:=⟨dH,bF _,rfl,rfl,rfl,fun _ _ _=>rfl,fun b' _ bf=>by simp only[aO];rw[if_neg (fun he=>by rw[he,hc.1]at bf;cases bf)];exact bf,fun _ _ _ _=>rfl⟩;have ly:a8 g aO LC s.mem w:=hs.mem.bw g.eG (fun _ h=>h) (fun _ _ h=>h) (fun id b' bf=>⟨by simp only[aO];rw[if_neg (fun he=>by rw[he,hc.1]at bf;cases bf)],rfl,fun _=>rfl⟩) hs.mem.im;refine⟨{g with mb:=mH},aO,ψ,⟨fun t=>?_,hs.gl.mono dH,hs.size,hs.defers.bw ψ,?_,?_,⟨fun b' o bf=>?_,hs.own.base⟩⟩⟩
    ·have ht:=(hs.env t).sub dH;simp only[gg];split
     ·rename_i YM;subst YM;rw[hd]at ht;generalize a.tmps.getD _ undef=x at ht;cases ht with
      |ae _ _ _ _ b' bf=>
       rw[hb]at bf
       cases bf;exact .ν _ _ _ _ (by simp[mH])
     ·exact ht
    ·refine hs.mem.push ly _ mH (fun id c hc=>?_) (fun id hid=>if_neg (by omega)) ?_
     ·simp only[mH]at hc;split at hc
      ·exact .inr (by assumption)
      ·exact .inl hc
     ·obtain⟨_,h2,ar,e,h3,h4,h5,h6⟩:=hc;refine⟨b,by simp[mH],by simp[aO],h2,ar,e,h3,by simpa using h4,fun i hi aj=>?_,h6⟩;simp only[iz];exact(Hz hs.mem (h5 i (by simpa using hi) aj)).sub dH
    ·refine⟨fun d2 v2 l2 r_=>?_,fun d2 v2 s2 p2 r_=>?_,fun d2 v2 b2 cQ=>?_⟩
     ·simp only[fW]at r_;split at r_
      ·cases r_
      ·rename_i ak;obtain⟨b2,k1,k2⟩:=hs.loc.cells _ _ _ r_;refine⟨b2,k1,k2.bw dH (fun _ _ _ h=>h) ?_ rfl fun _=>rfl⟩;simp only[aO];rw[if_neg (fun he=>by
        have:=k2.1
        rw[he,hc.1]at this;simp only[aZ,Own.l.injEq]at this;exact ak this)]
     ·simp only[fW]at r_;split at r_
      ·cases r_
      ·rename_i ak;obtain⟨b2,k1,k2,k3⟩:=hs.loc.iter _ _ _ _ r_;refine⟨b2,k1,?_,k3⟩;simp only[aO];rw[if_neg (fun he=>by
        rw[he,hc.1]at k2
        simp only[aZ,Own.l.injEq]at k2;exact ak k2)]
       exact k2
     ·obtain⟨v3,blk,k1,k2⟩:=hs.loc.vh _ _ _ cQ;simp only[fW];split
      ·rename_i gm;subst gm;rw[hl]at k1;cases k1;exact⟨_,_,rfl,k2⟩
      ·exact⟨v3,blk,k1,k2⟩
    ·simp only[aO]at bf;split at bf
     ·rename_i he;subst he;exact hs.own.ge _ _ hc.1
     ·exact hs.own.ge _ _ bf
   ·cases h
  ·cases h
 ·cases h
theorem Tm:∀{l:List Nat} {g:Gh} {own:OW} {lb:LB} {s s':St} {a:Act} {w:World},SR gl base N LC cN g lb own s a w->An l s=some s'→
  ∃g' aO,dZ g own w g' aO w/\SR gl base N LC cN g' lb aO s' a w
 |[],g,own,lb,s,s',a,w,hs,h=>by cases h;exact⟨g,own,.refl _ _ _,hs⟩
 |d::l,g,own,lb,s,s',a,w,hs,h=>by
  simp only[An]at h;split at h
  ·rename_i h1;obtain⟨g1,tS,k1,k2⟩:=ae0 hs h1;obtain⟨g2,wH,k3,k4⟩:=Tm k2 h;exact⟨g2,wH,k1.trans k3,k4⟩
  ·cases h
theorem Px(hF:∀f,F.fn f)(hd:F.depth=none)(iH:np F P base LC gl aF){id:Nat}{ops:Array Oper}{l:List aT}(hc:tv P bJ N ops ops.toList=some l)
  (ab:(P.follows .mixedOrders&&pn ops.toList 0&&Bj l (iw ops))=true) {g:Gh} {lb:LB} {own:OW} {s s1:St} {a:Act} {w:World}
  (hs:SR gl base N LC cN g lb own s a w) (hx:ek gl aF l (rh l (iw ops) pY yg) (rh l (iw ops) Aa pY) s=some s1) {Q:Exit->Act->World->Prop}
  (hQ:∀g' lb' aO a' w',dZ g own w g' aO w'->SR gl base N LC cN g' lb' aO s1 a' w'->Q .normal a' w'):(Code.region id ops true).wpIn F n P Q a w:=by
 simp only[jv]at ab;unfold ek at hx;split at hx
 ·rename_i tr zW;split at hx
  ·rename_i iS;simp only[jv]at iS;obtain⟨hT,hO⟩:=aej ab.1.2 ab.2 zW iS.1 iS.2;obtain⟨k1,k2,k3⟩:=Ny zW;have vQ:tr.getD 0 s=s:=by simp[kJ,k2]
   have Yd:tr.getD l.length s=s1:=by rw[List.getLast?_eq_getElem?,k1]at hx;simp at hx;simp[kJ,hx]
   obtain⟨d1,d2⟩:=hs.drawn (w.drawn+1);refine wpIn_region_any ab.1.1 (U2 hF hd iH hc ab.1.2 hT hO ops.size _ g lb own s a _ (by simp) ?_ ?_ ?_ d1 ?_)
   ·exact Nat.le_trans Array.countP_le_size (by simp)
   ·intro i o ho hl;unfold kF at hl;rcases bP i ops.size with h|h<;>simp[h]at hl
   ·intro r k hk h1 h2;have:∀j,¬kF (aid ops.size false) j:=fun j hl=>by unfold kF at hl;rcases bP j ops.size with h|h<;>simp[h]at hl
    have G5:=hT.same (r:=r) (i:=0) (Nat.zero_le k) hk fun j o _ hj ho hw=>this j (h1 j o hj ho hw);simp only[vQ]at G5;exact Nl G5
   ·intro g' lb' aO a' w' h1 h2;rw[Yd]at h2;exact hQ _ _ _ _ _ (d2.trans h1) h2
  ·cases hx
 ·cases hx
theorem afg(hF:∀f,F.fn f)(hd:F.depth=none)(iH:np F P base LC gl aF){id:Nat}{ops:Array Oper}{draw:Bool}{lp:oC}{g:Gh}{lb:LB}{own:OW}{s s':St}{ex:Ex}{a:Act}{w:World}
  (hs:SR gl base N LC cN g lb own s a w) (hx:exec gl aF lp (IU P bJ N ops draw) s=some (ex,s')) {Q:Exit->Act->World->Prop}
  (hQ:∀g' lb' aO a' w',dZ g own w g' aO w'->SR gl base N LC cN g' lb' aO s' a' w'->Q ex.zg a' w'):(Code.region id ops draw).wpIn F n P Q a w:=by
 unfold IU at hx;split at hx
 ·rename_i l hc;split at hx
  ·rename_i uF;subst uF;split at hx
   ·rename_i ab;simp only[exec,bH,aN]at hx;obtain⟨s1,hx,rfl,rfl⟩:=hx;exact Px hF hd iH hc ab hs hx hQ
   ·split at hx
    ·rename_i l' gj;split at hx
     ·rename_i ab;simp only[exec]at hx;cases kD:ek gl aF l' (rh l' (iw ops) pY yg) (rh l' (iw ops) Aa pY) s with
      |none=>rw[kD]at hx;cases hx
      |some s1=>
       rw[kD]at hx
       simp only[Option.map_some,bH,aN]at hx;obtain⟨s2,hx,rfl,rfl⟩:=hx;refine Px hF hd iH gj ab hs kD fun g' lb' aO a' w' h1 h2=>?_;obtain⟨g2,wH,k1,k2⟩:=Tm h2 hx;exact hQ _ _ _ _ _ (h1.trans k1) k2
     ·cases hx
    ·cases hx
  ·rename_i uF;obtain rfl:draw=false:=by simpa using uF
   simp only[exec,bH,aN]at hx;obtain⟨s1,hx,rfl,rfl⟩:=hx;refine wpIn_region ?_;have:=aei (n:=n) (Q:=Q) hF hd iH hc ops.size 0 g lb own s s1 a w (by simp) hs (by simpa using hx) hQ;simpa using this
 ·cases hx
end
theorem Gh.Wo(g:Gh)(n:Nat):(g.cut n).cut n=g.cut n:=by
 unfold Gh.cut;congr 1
 ·funext id;by_cases h:id<n<;>simp[h]
 ·funext t m;by_cases h:t<n<;>simp[h]
theorem Gh.Ja(g:Gh)(n:Nat):(g.cut n).sub g:=
 ⟨fun _ _ _ h=>h,fun id b h=>(by simp only[Gh.cut]at h;split at h<;>first|exact h|cases h),fun t m x h=>(by simp only[Gh.cut]at h;split at h<;>first|exact h|cases h)⟩
theorem V5{g:Gh}{n b o cap id k:Nat}{c:χ}(h:nw g n b o cap c)(hl:c.lo id=true)(hk:id<k):nw (g.cut k) n b o cap c:=by
 cases c with
 |any=>trivial
 |nil=>exact h
 |full=>exact h
 |own t=>
  simp only[χ.lo,decide_eq_true_eq]at hl
  exact⟨h.1,by simp only[Gh.cut];rw[if_pos (by omega)];exact h.2⟩
theorem LX{id:Nat}{v:AV}(h:lo id v=true):∀x∈v.cells,lo id x=true:=by
 intro x hx;cases v with
 |agg l=>simp only[lo,nN,gu]at h;exact h x hx
 |aP l=>cases hx
 |undef=>cases hx
 |_=>simp only[AV.cells,List.mem_singleton]at hx;subst hx;exact h
theorem VR.Wp{g:Gh}{lb:LB}{v:AV}{x:Value}(h:VR g lb v x){id n:Nat}(hn:id<n)(hl:lo id v=true):VR (g.cut n) lb v x:=by
 induction h with
 |undef=>exact .undef _
 |cR _ x h=>exact .cR _ x h
 |int _ k n=>exact .int _ k n
 |bool _ b=>exact .bool _ b
 |str _ b s h=>exact .str _ b s h
 |iK=>exact .iK _
 |ae _ d v off b h=>exact .ae _ d v off b h
 |ν _ mY off b h=>
  simp only[lo,decide_eq_true_eq]at hl
  exact .ν _ mY off b (by simp only[Gh.cut];rw[if_pos (by omega)];exact h)
 |ref _ l b o xs cu _ ih=>
  simp only[lo,nN,gu]at hl
  exact .ref _ l b o xs cu fun i hi=>ih i hi (hl _ (cL hi))
 |iJ=>exact .iJ _
 |gX _ c a cap hc=>exact .gX _ c a cap hc
 |sl _ kd mY off m cap b hc h=>
  simp only[lo,decide_eq_true_eq]at hl
  exact .sl _ kd mY off m cap b hc (by simp only[Gh.cut];rw[if_pos (by omega)];exact h)
 |list _ c l b o sz m cap xs hm db hc bh cu _ ih=>
  simp only[lo,nN,jv,gu]at hl
  exact .list _ c l b o sz m cap xs hm db (V5 hc hl.1 hn) bh cu fun i hi j hj=>ih i hi j hj (LX (hl.2 _ (cL hi)) _ (cL hj))
 |agg _ l a hs h1 _ ih=>
  simp only[lo,nN,gu]at hl
  exact .agg _ l a hs h1 fun i hi aj=>ih i hi aj (hl _ (cL hi))
 |aP _ l a hs _ ih=>
  simp only[lo,nN,gu]at hl
  exact .aP _ l a hs fun i hi aj=>ih i hi aj (hl _ (cL hi))
 |fn _ f f' l m a b hs ht hy _ _ mZ kT=>
  simp only[lo,nN,jv,gu]at hl
  refine .fn _ f f' l m a b hs ht ?_ (fun i hi aj=>mZ i hi aj (hl.1.2 _ (cL hi))) (fun i hi aj=>kT i hi aj (hl.2 _ (cL hi)));cases f<;>cases f'<;>first|exact hy|exact hy.elim|skip
  rename_i i b;have:=hl.1.1;simp only[Fn.below,decide_eq_true_eq]at this;simp only[rA,Gh.cut]at hy⊢;rw[if_pos (by omega)];exact hy
 |eJ=>exact .eJ _
 |iface _ t v x _ ih=>exact .iface _ t v x (ih hl)
 |fY=>exact .fY _
 |map _ mY b h=>
  simp only[lo,decide_eq_true_eq]at hl
  exact .map _ mY b (by simp only[Gh.cut];rw[if_pos (by omega)];exact h)
 |fJ=>exact .fJ _
theorem VR.Pp{g:Gh}{lb:LB}{v:AV}{x:Value}(h:VR g lb v x){g0:Gh}{n:Nat}(hd:∀id b,g0.mb id=some b->id<n)(hr:∀t m y,g0.rows t m=some y->t<n):
  ∀{lb0:LB} {x0:Value},VR g0 lb0 v x0->VR (g.cut n) lb v x:=by
 induction h with
 |undef=>intro _ _ _;exact .undef _
 |cR _ x h=>intro _ _ _;exact .cR _ x h
 |int _ k n=>intro _ _ _;exact .int _ k n
 |bool _ b=>intro _ _ _;exact .bool _ b
 |str _ b s h=>intro _ _ _;exact .str _ b s h
 |iK=>intro _ _ _;exact .iK _
 |ae _ d v off b h=>intro _ _ _;exact .ae _ d v off b h
 |ν _ mY off b h=>
  intro _ _ h0
  cases h0 with
  |ν _ _ _ b0 ef=>exact .ν _ mY off b (by simp only[Gh.cut];rw[if_pos (hd _ _ ef)];exact h)
 |ref _ l b o xs cu _ ih=>
  intro _ _ h0
  cases h0 with
  |ref _ _ b0 o0 xs0 Ku uP=>exact .ref _ l b o xs cu fun i hi=>ih i hi (uP i hi)
 |iJ=>intro _ _ _;exact .iJ _
 |gX _ c a cap hc=>intro _ _ _;exact .gX _ c a cap hc
 |sl _ kd mY off m cap b hc h=>
  intro _ _ h0
  cases h0 with
  |sl _ _ _ _ _ _ b0 zH ef=>exact .sl _ kd mY off m cap b hc (by simp only[Gh.cut];rw[if_pos (hd _ _ ef)];exact h)
 |list _ c l b o sz m cap xs hm db hc bh cu _ ih=>
  intro _ _ h0
  cases h0 with
  |iJ=>exact hc.elim
  |gX _ c0 a0 V4 zH=>
   refine .list _ c [] b o sz m cap xs hm db ?_ bh cu fun i hi=>absurd hi (Nat.not_lt_zero _)
   rcases zH with rfl|⟨rfl,_⟩
   ·trivial
   ·exact hc
  |list _ _ _ b0 o0 sz0 m0 V4 xs0 Q1 ag3 zH ahj Ku uP=>
   refine .list _ c l b o sz m cap xs hm db ?_ bh cu fun i hi j hj=>ih i hi j hj (uP i hi j hj)
   cases c with
   |any=>trivial
   |nil=>exact hc
   |full=>exact hc
   |own t=>exact⟨hc.1,by simp only[Gh.cut];rw[if_pos (hr _ _ _ zH.2)];exact hc.2⟩
 |agg _ l a hs h1 _ ih=>
  intro _ _ h0
  cases h0 with
  |agg _ _ a0 kS aH uP=>exact .agg _ l a hs h1 fun i hi aj=>ih i hi aj (uP i hi (by omega))
 |aP _ l a hs _ ih=>
  intro _ _ h0
  cases h0 with
  |aP _ _ a0 kS uP=>exact .aP _ l a hs fun i hi aj=>ih i hi aj (uP i hi (by omega))
 |fn _ f f' l m a b hs ht hy _ _ mZ kT=>
  intro _ _ h0
  cases h0 with
  |fn _ _ f0 _ _ a0 b0 kS ht0 Lo uP iq=>
   refine .fn _ f f' l m a b hs ht ?_ (fun i hi aj=>mZ i hi aj (uP i hi (by omega))) (fun i hi aj=>kT i hi aj (iq i hi (by omega)))
   cases f<;>cases f'<;>first|exact hy|exact hy.elim|skip
   cases f0<;>first|exact Lo.elim|skip
   simp only[rA,Gh.cut]at hy Lo⊢;rw[if_pos (hd _ _ Lo)];exact hy
 |eJ=>intro _ _ _;exact .eJ _
 |iface _ t v x _ ih=>
  intro _ _ h0
  cases h0 with
  |iface _ _ _ x0 h0=>exact .iface _ t v x (ih h0)
 |fY=>intro _ _ _;exact .fY _
 |map _ mY b h=>
  intro _ _ h0
  cases h0 with
  |map _ _ b0 ef=>exact .map _ mY b (by simp only[Gh.cut];rw[if_pos (hd _ _ ef)];exact h)
 |fJ=>intro _ _ _;exact .fJ _
def Dd(n:Nat):Nat->κ->κ
 |0,b=>b
 |k+1,b=>Dd n k (b.Aq n)
theorem afZ(n:Nat):∀(t:List Nat) (bs:List κ) (id:Nat) (blk:κ),(lJ n t bs)[id]?=some blk->∃b0 k,bs[id]?=some b0/\blk=Dd n k b0/\(k=0->id∉t):=by
 intro t;induction t with
 |nil=>intro bs id blk h;exact⟨blk,0,h,rfl,fun _ h=>by cases h⟩
 |cons i t ih=>
  intro bs id blk h
  simp only[lJ]at h;obtain⟨b0,k,h1,h2,h3⟩:=ih _ id blk h;split at h1
  ·rename_i b hb;rw[List.getElem?_set]at h1;split at h1
   ·rename_i hi;subst hi;split at h1
    ·cases h1;exact⟨b,k+1,hb,h2,fun h=>by omega⟩
    ·cases h1
   ·rename_i hi;exact⟨b0,k,h1,h2,fun hk hm=>by rcases dO.1 hm with rfl|hm;exact hi rfl;exact h3 hk hm⟩
  ·rename_i hb;refine⟨b0,k,h1,h2,fun hk hm=>?_⟩;rcases dO.1 hm with rfl|hm
   ·rw[hb]at h1;cases h1
   ·exact h3 hk hm
theorem De{n k:Nat}{b:κ}(h:∀l,b≠ .cells l):Dd n k b=b:=by
 induction k with
 |zero=>rfl
 |succ k ih=>
  have:b.Aq n=b:=by cases b<;>first|rfl|exact absurd rfl (h _)
  rw[Dd,this,ih]
theorem afY{g:Gh}{n:Nat}:∀(k:Nat) (l:List AV),∃l',Dd n (k+1) (.cells l)= .cells l'/\l'.length=l.length∧
  ∀i (h:i<l.length) (h':i<l'.length) x,VR g bS l[i] x->VR (g.cut n) bS l'[i] x:=by
 intro k;induction k generalizing g with
 |zero=>
  intro l
  refine⟨_,rfl,by simp,fun i h h' x hx=>?_⟩;simp only[iz];exact hx.exp n true
 |succ k ih=>
  intro l
  obtain⟨l',h1,h2,h3⟩:=ih (g:=g.cut n) (l.map (exp n true));refine⟨l',h1,by simpa using h2,fun i h h' x hx=>?_⟩;have:=h3 i (by simpa using h) h' x (by simp only[iz];exact hx.exp n true);rwa[Gh.Wo]at this
def o6(n:Nat)(own:OW):OW:=fun b=>match own b with
 |some (.m id)=>if id<n then some (.m id)else none
 |_=>none
theorem yx{n:Nat}{own:OW}{b id:Nat}(h:own b=some (.m id))(hid:id<n):o6 n own b=some (.m id):=by simp[o6,h,hid]
theorem Aj{n:Nat}{own:OW}{b:Nat}{o:Own}(h:o6 n own b=some o):own b=some o/\∃id,o= .m id:=by
 unfold o6 at h;split at h
 ·rename_i id he;split at h
  ·cases h;exact⟨he,id,rfl⟩
  ·cases h
 ·cases h
theorem S0{n:Nat}{own:OW}{b:Nat}(h:own b=none):o6 n own b=none:=by simp[o6,h]
theorem ND{g0:Gh}{HH:OW}{LC:eN}{m0:Mem}{w0:World}(h0:a8 g0 HH LC m0 w0){g:Gh}{own:OW}{m:Mem}{w:World}(h:a8 g own LC m w){extra:List κ}
  (hk:KM {ε:=m0.ε++extra,θ:=[]} m):a8 (g.cut m0.ε.length) (o6 m0.ε.length own) LC (m0.back m) w:=by
 have hlen:m0.ε.length<=m.ε.length:=by have:=hk.len;simp at this;omega
 have eQ:(m0.back m).ε.length=m0.ε.length:=IG hlen;refine⟨fun id b hb=>?_,fun t k x hx=>?_,fun id blk hb=>?_,h.im⟩
 ·rw[eQ];simp only[Gh.cut]at hb;split at hb<;>first|assumption|cases hb
 ·rw[eQ];simp only[Gh.cut]at hx;split at hx<;>first|assumption|cases hx
 ·have hid:id<m0.ε.length:=by have:=(kg.1 hb).1;omega
  simp only[Mem.back]at hb;obtain⟨b0,k,h1,h2,h3⟩:=afZ _ _ _ _ _ hb;rw[List.getElem?_take_of_lt hid]at h1;have hB:=h.blk id b0 h1;have iT:∀b,g.mb id=some b->(g.cut m0.ε.length).mb id=some b:=fun b hb=>by simp only[Gh.cut];rw[if_pos hid];exact hb
  cases b0 with
  |cells l=>
   obtain⟨b,k1,k2,k3,a,e,k4,k5,k6,k7⟩:=hB
   cases k with
   |succ k=>
    obtain⟨l',q1,q2,q3⟩:=afY (g:=g) (n:=m0.ε.length) k l
    rw[h2,q1];exact⟨b,iT b k1,yx k2 hid,k3,a,e,k4,by omega,fun i hi aj=>q3 i (by omega) hi _ (k6 i (by omega) aj),k7⟩
   |zero=>
    rw[h2]
    refine⟨b,iT b k1,yx k2 hid,k3,a,e,k4,k5,fun i hi aj=>?_,k7⟩;have hv:=k6 i hi aj;rcases hk.cells id l h1 (by simp;omega) (h3 rfl) l[i] (cL hi)with⟨Su,q1,q2⟩|q1
    ·rw[List.getElem?_append_left hid]at q1;obtain⟨b',r1,r2,r3,a',e',r4,r5,r6,r7⟩:=h0.blk id _ q1;obtain⟨j,hj,Zl⟩:=qo.1 q2;have hx:=r6 j hj (by omega);rw[Zl]at hx;exact hv.Pp h0.iR h0.na hx
    ·exact hv.Wp hid q1
  |iter s pos=>exact hB.elim
  |dead=>
   rw[h2,De (by simp)]
   trivial
  |nu T e s=>
   rw[h2,De (by simp)]
   obtain⟨b,k1,k2,k3,p,v,k4,k5,k6,k7⟩:=hB;refine⟨b,iT b k1,yx k2 hid,k3,p,v,k4,k5,k6,?_⟩;rcases k7 with k7|⟨r,cap,cur,q1,q2,q3⟩
   ·exact .inl k7
   ·exact .inr ⟨r,cap,cur,q1,yx q2 hid,q3⟩
  |map es=>
   rw[h2,De (by simp)]
   obtain⟨b,k1,k2,k3,a,c,k4,k5,k6,k7⟩:=hB;refine⟨b,iT b k1,yx k2 hid,k3,a,c,k4,k5,fun i hi aj=>?_,k7⟩;obtain⟨q1,q2⟩:=k6 i hi aj;obtain⟨p1,p2⟩:=k7 _ (cL hi);have r1:=VR.exp (lb':=bS) m0.ε.length true q1;have r2:=VR.exp (lb':=bS) m0.ε.length true q2;rw[Bz _ _ _ p1]at r1;rw[Bz _ _ _ p2]at r2;exact⟨r1,r2⟩
  |front c sz e=>
   rw[h2,De (by simp)]
   obtain⟨k0,b,cap,k1,k2,k3,k4,k5,k6,k7⟩:=hB;refine⟨k0,b,cap,by simp only[Gh.cut];rw[if_pos hid];exact k1,k2,yx k3 hid,k4,k5,fun m' x hx=>k6 m' x ?_,by simp only[Gh.cut];rw[if_pos hid];exact k7⟩;simp only[Gh.cut]at hx;rw[if_pos hid]at hx;exact hx
  |loop env ps fL body st=>
   rw[h2,De (by simp)]
   obtain⟨b,k1,k2,k3,L,N,k4,k5,k6,k7,k8,k9,k10,CE,CF⟩:=hB;exact⟨b,iT b k1,yx k2 hid,k3,L,N,k4,fun t=>by
    obtain⟨g0,x0,q1,q2,q3⟩:=CF t
    exact(k5 t).Pp (fun i b hb=>Nat.lt_trans (q1 i b hb) hid) (fun i m y hy=>Nat.lt_trans (q2 i m y hy) hid) q3,k6,k7,k8,k9,k10,CE,CF⟩
def AI(P:Program)(aF:cx):Prop:=
 ∀f first cap l mem r,aF (.fn (.func f) first cap) [.fn (.yield l) [] []] mem=some r->∃fn,P.funcs[f]?=some fn/\fn.body.isNone=false/\(fn.name== "runtime.NumGoroutine")=false
theorem S8{base:Nat}{own:OW}{w:World}(ho:bV base own w):gq own w.heap.size none=own:=by
 funext b;simp only[gq];split
 ·rename_i h;subst h;cases hx:own w.heap.size with
  |none=>rfl
  |some o=>exact absurd rfl (yy ho hx)
 ·rfl
theorem Qd(l:List AV)(t:Nat):ζ (l.map φ) t=φ (ζ l t):=by
 induction l generalizing t with
 |nil=>rfl
 |cons a l ih=>cases t with
  |zero=>rfl
  |succ t=>exact ih t
theorem HY{P:Program}{f:FuncId}{fn:Func}{args:Array Value}{w:World}(h:P.funcs[f]?=some fn)(hb:fn.body.isNone=false)(hn:(fn.name== "runtime.NumGoroutine")=false):
  (callFunc f args).run P w= .ok (.enter f args) w:=by
 have h1:(program:Sem Program).run P w= .ok P w:=rfl;simp only[callFunc,Sem.run_bind,h1,Result.andThen_ok,h,hn,hb,gY,if_false];rfl
section
variable{F:Fence}{n:Nat}{P:Program}{bJ:Nat->Bool}{N:Nat}{gl:Nat->AV}{base:Nat}{LC:eN}{cN:Nat}{aF:cx}
theorem aaD{v fv:AV}(h:v.CA=some fv):∃f a b,v= .fn (.func f) a b/\fv=v:=by
 unfold AV.CA at h;split at h
 ·cases h;exact⟨_,_,_,rfl,rfl⟩
 ·cases h
theorem afn(hF:∀f,F.fn f)(hd:F.depth=none)(sr:F.round=none)(iH:np F P base LC gl aF)(vS:AI P aF)(hK:KC aF)
  {g:Gh} {lb:LB} {own:OW} {s s':St} {ex:Ex} {a:Act} {w:World} (hs:SR gl base N LC cN g lb own s a w) {f:Operand} {f':bm} (hf:cm f=some f')
  {ps:Array Tmp} {fL body:Code} {DJ DR:AC} (ha:LC N DJ fL) (hb:LC N DR body) (bA:∀p∈ps.toList,p<N) {lp:oC}
  (hx:exec gl aF lp (.wP f' ps.toList DJ DR) s=some (ex,s')) {Q:Exit->Act->World->Prop}
  (hQ:∀g' lb' aO a' w',dZ g own w g' aO w'->SR gl base N LC cN g' lb' aO s' a' w'->Q ex.zg a' w'):(Code.rangeFunc f ps fL body).wpIn F n P Q a w:=by
 simp only[exec]at hx;split at hx
 ·rename_i r m hc;obtain⟨fv,GL,hc⟩:=Option.bind_eq_some_iff.1 hc;obtain⟨nD,A,B,ax,rfl⟩:=aaD GL;have Cw:=hs.ev _ _ hf;rw[ax]at Cw hc;obtain⟨As,Bs,Qt⟩:∃As Bs,a.eval f= .func (.func nD) As Bs:=by
   generalize a.eval f=y at Cw;cases Cw with
   |fn _ _ f2 _ _ As Bs _ _ hy=>
    cases f2<;>first|exact hy.elim|skip
    cases hy;exact⟨As,Bs,rfl⟩
  obtain⟨fn0,Kh,Ki,YT⟩:=vS _ _ _ _ _ _ hc;refine wpIn_rangeFunc fun fn mB=>?_;have hlen:∀id b,g.mb id=some b->id<s.mem.ε.length:=hs.mem.iR;have x8:SR gl base N LC cN g lb own s {a with defers:=yn w.heap.size::a.defers} (w.alloc (.deferred (some []))):=by
   have hm:=hs.mem.alloc hs.own (.deferred (some [])) none;have hl:=hs.loc.alloc hs.own (.deferred (some [])) none;have ho:=hs.own.alloc (.deferred (some [])) none;rw[S8 hs.own]at hm hl ho;refine⟨hs.env,hs.gl,hs.size,?_,hm,hl,ho⟩;obtain⟨h0,ms,h1,h2,h3⟩:=hs.defers;refine⟨by simp;omega,w.heap.size::ms,wY.2 ⟨fun hm=>by have:=(h3 _ hm).2.1;omega,h1⟩,by simp[h2],fun r hr=>?_⟩;rcases dO.1 hr with rfl|hr
   ·refine⟨h0,by simp,?_,pB w _⟩;cases hx:own w.heap.size with
    |none=>rfl
    |some o=>exact absurd rfl (yy hs.own hx)
   ·obtain⟨k1,k2,k3,k4⟩:=h3 r hr;exact⟨k1,by simp;omega,k3,(tE w _ k2).trans k4⟩
  have Rj:dZ g own w g own (w.alloc (.deferred (some []))):=by have:=dZ.alloc g own w (.deferred (some [])) none;rwa[S8 hs.own]at this
  obtain⟨wA,Ro⟩:∃wA,wA=w.alloc (.deferred (some [])):=⟨_,rfl⟩;rw[<-Ro]at x8 Rj;obtain⟨L,hL⟩:∃L:Loop,L= {state:= .ready,pending:=none,fn,tmps:=a.tmps,params:=ps,assign:=fL,body,defers:=w.heap.size}:=⟨_,rfl⟩;let gB:Gh:= {g with mb:=fun id=>if id=s.mem.ε.length then some wA.heap.size else g.mb id};let tU:OW:=gq own wA.heap.size (some (.m s.mem.ε.length));let wB:World:=wA.alloc (.loop L);have G9:g.sub gB:=⟨fun _ _ _ h=>h,fun id b hb=>by
   have:=hlen id b hb
   simp only[gB];rw[if_neg (by omega)];exact hb,fun _ _ _ h=>h⟩
  have ZL:a8 gB tU LC {ε:=s.mem.ε++[.loop (s.env.map s.mem.φ) ps.toList DJ DR .ready],θ:=[]} wB:=by
   have hm:=x8.mem;have:=hm.push (hm.alloc x8.own (.loop L) (some (.m s.mem.ε.length))) (.loop (s.env.map s.mem.φ) ps.toList DJ DR .ready) gB.mb (fun id b hb=>?_) (fun id hid=>?_) ?_
   ·exact⟨this.iR,this.na,this.blk,this.im⟩
   ·simp only[gB]at hb;split at hb
    ·exact .inr (by assumption)
    ·exact .inl hb
   ·exact if_neg (by omega)
   ·refine⟨wA.heap.size,by simp[gB],by simp[gq],(show∀o,g.im wA.heap.size o=none from wv hm),L,N,pB wA _,fun t=>?_,by rw[hL],by rw[hL];exact x8.size,bA,by rw[hL];exact ha,by rw[hL];exact hb,?_,fun t=>?_⟩
    ·have:=(hs.env t).φ (lb':=bS);rw[show(s.env.map s.mem.φ)=s.env.map φ from rfl,Qd,hL];exact this.sub G9
    ·rw[hL];exact⟨rfl,rfl⟩
    ·refine⟨g,a.tmps.getD t undef,hm.iR,hm.na,?_⟩;rw[show(s.env.map s.mem.φ)=s.env.map φ from rfl,Qd];exact(hs.env t).φ
  have Z0:bV base tU wB:=x8.own.alloc _ _;have hyB:VR gB lb (.fn (.yield s.mem.ε.length) [] []) (.func (.yield wA.heap.size) #[] #[]):=
   .fn _ _ _ _ _ _ _ rfl rfl (by simp[rA,gB]) (fun i hi=>by simp at hi) (fun i hi=>by simp at hi)
  have BU:=iH (n-1) gB lb tU _ wB _ _ _ _ (a.eval f) #[.func (.yield wA.heap.size) #[] #[]] ZL Z0 (hs.gl.mono G9) (by rw[Qt]at Cw⊢;exact Cw.sub G9)
   (PW.cons hyB PW.nil) hc
  have Ra:(Deferred.ofValue (a.eval f) #[.func (.yield wA.heap.size) #[] #[]]).run P wB= .ok {target:= .fn (.func nD) Bs,args:=As++ #[.func (.yield wA.heap.size) #[] #[]]} wB:=by rw[Qt];rfl
  have hinv:(invoke (.fn (.func nD) Bs) (As++ #[.func (.yield wA.heap.size) #[] #[]])).run P wB= .ok (.enter nD (As++ #[.func (.yield wA.heap.size) #[] #[]]++Bs)) wB:=by simp only[invoke];exact HY Kh Ki YT
  have dj:(do let d<-Deferred.ofValue (a.eval f) #[.func (.yield wA.heap.size) #[] #[]];invoke d.target d.args:Sem Next).run P wB= .ok (.enter nD (As++ #[.func (.yield wA.heap.size) #[] #[]]++Bs)) wB:=by simp only[Sem.run_bind,Ra,Result.andThen_ok,hinv]
  have aag:(resolve a.eval (rangeCall f wA.heap.size) 0).run P wB= .ok {target:= .fn (.func nD) Bs,args:=As++ #[.func (.yield wA.heap.size) #[] #[]]} wB:=by
   have:(#[Operand.const (.func (.yield wA.heap.size) #[] #[])].map a.eval)= #[.func (.yield wA.heap.size) #[] #[]]:=by simp[Act.eval]
   simp only[resolve,this];exact Ra
  unfold AH at BU;rw[dj]at BU;have Yx:CallsIn F (n-1) P nD (As++ #[.func (.yield wA.heap.size) #[] #[]]++Bs) wB fun e w'=>∃x,e= .returned x/\nS base LC gl gB tU wB r m x w':=by
   rcases BU with⟨f2,as2,h1,h2⟩|⟨_,_,h1,_⟩|⟨_,_,_,_,_,h1,_⟩
   ·cases h1;exact h2
   ·cases h1
   ·cases h1
  refine⟨wA.heap.size,[yn w.heap.size],wB,{target:= .fn (.func nD) Bs,args:=As++ #[.func (.yield wA.heap.size) #[] #[]]},wB,nD,_,wB,?_,aag,fun f' _=>hF f',hinv,fun h=>(by rw[hd]at h;cases h),Yx.mono fun e w3 he=>?_⟩
  ·rw[sr];show _=Result.ok (wA.heap.size,[yn w.heap.size]) (wA.alloc (.loop L));rw[Ro,hL];simp only[Instr.enterLoop,Sem.run_bind,run_newObj,Result.andThen_ok,Sem.run_pure];rfl
  ·obtain⟨x,rfl,g3,tT,sv,KN,hv3,Q_,ahg,ag9⟩:=he;have hk:=hK _ _ _ _ _ hc;have ZB:∃e p q r st,m.ε[s.mem.ε.length]?=some (.loop e p q r st)/\st≠ .busy/\s'= {s with mem:=s.mem.back m}∧
     ex=(match st with| .ready=> .normal| .busy=> .normal| .done none=> .ret| .done (some i)=> .exit i):=by
    split at hx
    ·rename_i he;cases hx;exact⟨_,_,_,_,_,he,by simp,rfl,rfl⟩
    ·rename_i he;cases hx;exact⟨_,_,_,_,_,he,by simp,rfl,rfl⟩
    ·rename_i he;cases hx;exact⟨_,_,_,_,_,he,by simp,rfl,rfl⟩
    ·cases hx
   obtain⟨e,p,q,r',st,gi,we,rfl,hex⟩:=ZB;obtain⟨b,b1,b2,b3,L3,N3,b4,b5,b6,b7,b8,b9,yV,tn,A3⟩:=KN.blk _ _ gi;have gh:b=wA.heap.size:=by have:=sv.sub.2.1 s.mem.ε.length wA.heap.size (by simp[gB]);rw[this]at b1;exact(Option.some.inj b1).symm
   subst gh;have aan:(L3.state==LoopState.busy)=false:=by
    cases st with
    |ready=>rw[tn.1];rfl
    |busy=>exact absurd rfl we
    |done j=>cases j<;>(rw[tn.1];rfl)
   let w4:World:=ff w3 wA.heap.size (.loop {L3 with state:= .exhausted});have pC:(Instr.endLoop wA.heap.size).run P w3= .ok L3.pending w4:=by
    have h1:(getObj wA.heap.size).run P w3= .ok (.loop L3) w3:=by simp only[getObj,Sem.run,b4]
    have h2:∀y,(setObj wA.heap.size y).run P w3= .ok () (ff w3 wA.heap.size y):=fun y=>by simp only[setObj,Sem.run,b4];rfl
    simp only[Instr.endLoop,Instr.getLoop,Sem.run_bind,h1,Result.andThen_ok,Sem.run_pure,aan,gY,if_false,h2];rfl
   have iU:∀b',b'≠wA.heap.size->w4.heap[b']?=w3.heap[b']?:=fun b' ak=>by simp only[w4,ff];rw[Ic (Ne.symm ak)]
   have ahe:(s.mem.back m).ε.length=s.mem.ε.length:=IG (by have:=hk.len;simp at this;omega);have Yk:=ND hs.mem KN hk;have Rl:g.sub (g3.cut s.mem.ε.length):=by
    refine⟨fun b o y hy=>sv.sub.1 b o y hy,fun id b hb=>?_,fun t k y hy=>?_⟩
    ·simp only[Gh.cut];rw[if_pos (hlen id b hb)];exact sv.sub.2.1 _ _ (G9.2.1 _ _ hb)
    ·simp only[Gh.cut];rw[if_pos (hs.mem.na t k y hy)];exact sv.sub.2.2 _ _ _ hy
   have ZK:a8 (g3.cut s.mem.ε.length) (o6 s.mem.ε.length tT) LC (s.mem.back m) w4:=by
    refine Yk.bw (Gh.eG _) (fun _ h=>h) (fun _ _ h=>h) (fun id b hb=>⟨rfl,iU b ?_,fun _=>rfl⟩) (fun b o y hy=>?_)
    ·rintro rfl
     have h1:=(Aj hb).1;rw[b2]at h1;cases h1;simp[o6,b2]at hb
    ·have ak:b≠wA.heap.size:=by rintro rfl;exact absurd ((b3 o).symm.trans hy) (by simp)
     rw[ph (iU b ak)];exact KN.im _ _ _ hy
   have pN:nS base LC gl g own wA .undef (s.mem.back m) undef w4:=by
    refine⟨g3.cut s.mem.ε.length,o6 s.mem.ε.length tT,⟨Rl,?_,?_,?_,?_,fun b hb ho=>?_,fun b hb ho=>?_,fun b hb ho o=>?_⟩,ZK,.undef _,⟨fun b o hb=>?_,?_⟩,fun b d hb=>?_,hs.gl.mono Rl⟩
    ·have h1:=sv.size;have h2:wA.heap.size<=wB.heap.size:=by simp[wB]
     simp only[w4,ff,Array.size_setIfInBounds];omega
    ·exact sv.os.trans rfl
    ·exact sv.tape.trans rfl
    ·exact sv.output.trans rfl
    ·have ak:b≠wA.heap.size:=by omega
     have Cg:eh tU b=none:=by simp only[eh,tU,gq,if_neg ak];exact ho
     have B_:b<wB.heap.size:=by simp[wB];omega
     rw[iU b ak,sv.bw b B_ Cg];exact tE wA _ hb
    ·have ak:b≠wA.heap.size:=by omega
     have Cg:eh tU b=none:=by simp only[eh,tU,gq,if_neg ak];exact ho
     have B_:b<wB.heap.size:=by simp[wB];omega
     exact S0 (sv.jO b B_ Cg)
    ·have ak:b≠wA.heap.size:=by omega
     have Cg:eh tU b=none:=by simp only[eh,tU,gq,if_neg ak];exact ho
     have B_:b<wB.heap.size:=by simp[wB];omega
     exact sv.im b B_ Cg o
    ·have:=Q_.ge b o (Aj hb).1;simpa[w4,ff]using this
    ·simpa[w4,ff]using Q_.base
    ·obtain⟨_,id,h⟩:=Aj hb;cases h
   obtain⟨g',lb',aO,k1,k2⟩:=x8.after (dst:=none) rfl (D2 x8 pN);have tG:=hQ g' lb' aO _ w4 (Rj.trans k1) k2;refine⟨L3.pending,w4,pC,?_⟩;cases st with
   |ready=>
    obtain⟨_,hp⟩:=tn
    rw[Option.isNone_iff_eq_none.1 hp];rw[hex]at tG;exact tG
   |busy=>exact absurd rfl we
   |done j=>
    cases j with
    |none=>
     obtain⟨_,hp⟩:=tn
     cases iV:L3.pending with
     |none=>rw[iV]at hp;exact hp.elim
     |some c=>
      rw[iV]at hp
      cases c<;>first|exact hp.elim|skip
      rw[hex]at tG;exact wpIn_ret tG
    |some i=>
     obtain⟨_,hp⟩:=tn
     cases iV:L3.pending with
     |none=>rw[iV]at hp;exact hp.elim
     |some c=>
      rw[iV]at hp
      cases c<;>first|exact hp.elim|skip
      dsimp only at hp;subst hp;rw[hex]at tG;exact wpIn_exit tG
 ·cases hx
end
section
variable{F:Fence}{n:Nat}{P:Program}{bJ:Nat->Bool}{N:Nat}{gl:Nat->AV}{base:Nat}{LC:eN}{cN:Nat}{aF:cx}
theorem Ay{P:Program}{b:Frame}{a:Act}{k:List Item}{cs:List Frame}{w:World}{c:Code}:
  step P (lone (b.atR a (.code (.scope c)::k)) cs w)= .next (lone (b.atR a (.code c:: .inScope c::k)) cs w):=
 step_lone_go (by simp[stepG,stepG.exec,Frame.atR])
theorem agb{P:Program}{b:Frame}{a:Act}{k:List Item}{cs:List Frame}{w:World}{c:Code}:
  step P (lone (b.atR a (.inScope c::k)) cs w)= .next (lone (b.atR a k) cs w):=
 step_lone_go (by simp[stepG,stepG.exec,Frame.atR])
def noGoto(Q:Exit->Act->World->Prop):Exit->Act->World->Prop
 | .goto _,_,_=>False
 |e,a,w=>Q e a w
theorem agx{F:Fence}{n:Nat}{P:Program}{Q:Exit->Act->World->Prop}{a:Act}{w:World}{c:Code}(h:c.wpIn F n P (noGoto Q) a w):(Code.scope c).wpIn F n P Q a w:=by
 intro b k cs sr hb hr;have h0:(lone (b.atR a (.code (.scope c)::k)) cs w).fenced P F:=fenced_calm hb hr rfl;obtain⟨e,a₁,w₁,hq,zE⟩:=h b (.inScope c::k) cs sr hb hr;cases e with
 |normal=>exact⟨.normal,a₁,w₁,hq,.head h0 Ay (StepsIn.trans zE (.one (fenced_calm hb hr rfl) agb))⟩
 |exit id=>
  have hx:exitTo id (.inScope c::k)=exitTo id k:=by simp[exitTo]
  exact⟨.exit id,a₁,w₁,hq,fun k' hk=> .head h0 Ay (zE.1 k' (by rw[hx];exact hk)),
   fun gW hk=>let⟨k₁,h1,h2⟩:=zE.2 gW (by rw[hx];exact hk);⟨k₁,h1,.head h0 Ay h2⟩⟩
 |goto l=>exact hq.elim
 |ret=>exact⟨_,a₁,w₁,hq,.of_steps (.one h0 Ay) zE⟩
 |panic ch=>exact⟨_,a₁,w₁,hq,.of_steps (.one h0 Ay) zE⟩
 |outgrown=>exact⟨_,a₁,w₁,hq,.of_steps (.one h0 Ay) zE⟩
theorem I5(hF:∀f,F.fn f)(hd:F.depth=none)(iH:np F P base LC gl aF)(vS:AI P aF)(hK:KC aF)
  (Qm:∀c,LC N (kj P bJ N false c) c) (m:Nat) (c:Code):∀(rf:Bool),(rf=true->F.round=none)->∀(g:Gh) (lb:LB) (own:OW) (s:St) (ex:Ex) (s':St) (a:Act) (w:World) (Q:Exit->Act->World->Prop),
  SR gl base N LC cN g lb own s a w->exec gl aF (fD m) (kj P bJ N rf c) s=some (ex,s')→
  (∀g' lb' aO a' w',dZ g own w g' aO w'->SR gl base N LC cN g' lb' aO s' a' w'->Q ex.zg a' w')->c.wpIn F n P Q a w:=by
 induction c with
 |skip=>
  intro rf jW g lb own s ex s' a w Q hs hx hQ
  cases hx;exact wpIn_skip (hQ _ _ _ _ _ (.refl _ _ _) hs)
 |label l=>
  intro rf jW g lb own s ex s' a w Q hs hx hQ
  cases hx;exact wpIn_label (hQ _ _ _ _ _ (.refl _ _ _) hs)
 |exit id=>
  intro rf jW g lb own s ex s' a w Q hs hx hQ
  cases hx;exact wpIn_exit (hQ _ _ _ _ _ (.refl _ _ _) hs)
 |ret=>
  intro rf jW g lb own s ex s' a w Q hs hx hQ
  cases hx;exact wpIn_ret (hQ _ _ _ _ _ (.refl _ _ _) hs)
 |region id ops draw=>
  intro rf jW g lb own s ex s' a w Q hs hx hQ
  exact afg hF hd iH hs hx hQ
 |seq x y Rw pX=>
  intro rf jW g lb own s ex s' a w Q hs hx hQ
  simp only[kj,exec]at hx;refine wpIn_seq ?_;split at hx
  ·rename_i s1 h1;refine Rw rf jW g lb own s .normal s1 a w _ hs h1 fun g1 uV tS a1 w1 k1 k2=>?_;exact pX rf jW g1 uV tS s1 ex s' a1 w1 Q k2 hx fun g2 CM wH a2 w2 k3 k4=>hQ _ _ _ _ _ (k1.trans k3) k4
  ·rename_i ak;refine Rw rf jW g lb own s ex s' a w _ hs hx fun g1 uV tS a1 w1 k1 k2=>?_;have:=hQ _ _ _ _ _ k1 k2;cases ex with
   |normal=>exact absurd hx (ak _)
   |exit i=>exact this
   |ret=>exact this
 |cond x b c mF ihc=>
  intro rf jW g lb own s ex s' a w Q hs hx hQ
  simp only[kj]at hx;split at hx
  ·rename_i x' gn;simp only[exec]at hx;split at hx
   ·rename_i t ht;have hv:=hs.ev _ _ gn;rw[ht]at hv;have hb:a.eval x= .bool t:=by generalize a.eval x=y at hv;cases hv;rfl
    refine wpIn_cond hb ?_;cases t with
    |true=>exact mF rf jW g lb own s ex s' a w Q hs hx hQ
    |false=>exact ihc rf jW g lb own s ex s' a w Q hs hx hQ
   ·cases hx
  ·cases hx
 |block id b ih=>
  intro rf jW g lb own s ex s' a w Q hs hx hQ
  simp only[kj,exec]at hx;refine wpIn_block ?_;split at hx
  ·rename_i i s1 h1;refine ih rf jW g lb own s (.exit i) s1 a w _ hs h1 fun g1 uV tS a1 w1 k1 k2=>?_;simp only[Ex.zg,Exit.inBlock];split at hx
   ·rename_i hi;rw[if_pos hi];cases hx;exact hQ _ _ _ _ _ k1 k2
   ·rename_i hi;rw[if_neg hi];cases hx;exact hQ _ _ _ _ _ k1 k2
  ·rename_i ak;refine ih rf jW g lb own s ex s' a w _ hs hx fun g1 uV tS a1 w1 k1 k2=>?_;have:=hQ _ _ _ _ _ k1 k2;cases ex with
   |normal=>exact this
   |exit i=>exact absurd hx (ak _ _)
   |ret=>exact this
 |loop b ih=>
  intro rf jW g lb own s ex s' a w Q hs hx hQ
  simp only[kj,exec]at hx;refine wpIn_loop_rounds m ?_;have key:∀(k:Nat) (g:Gh) (lb:LB) (own:OW) (s:St) (a:Act) (w:World),SR gl base N LC cN g lb own s a w->fD k (exec gl aF (fD m) (kj P bJ N rf b)) s=some (ex,s')→
    (∀g' lb' aO a' w',dZ g own w g' aO w'->SR gl base N LC cN g' lb' aO s' a' w'->Q ex.zg a' w')->Code.roundsIn F n P b Q k a w:=by
   intro k;induction k with
   |zero=>intro g lb own s a w _ hx _;simp[fD]at hx
   |succ k Cz=>
    intro g lb own s a w hs hx hQ
    simp only[fD]at hx;rw[roundsIn_succ];split at hx
    ·rename_i s1 h1;refine ih rf jW g lb own s .normal s1 a w _ hs h1 fun g1 uV tS a1 w1 k1 k2=>?_;exact Cz g1 uV tS s1 a1 w1 k2 hx fun g2 CM wH a2 w2 k3 k4=>hQ _ _ _ _ _ (k1.trans k3) k4
    ·rename_i ak;refine ih rf jW g lb own s ex s' a w _ hs hx fun g1 uV tS a1 w1 k1 k2=>?_;have:=hQ _ _ _ _ _ k1 k2;cases ex with
     |normal=>exact absurd hx (ak _)
     |exit i=>exact this
     |ret=>exact this
  exact key m g lb own s a w hs hx hQ
 |rangeFunc f ps fL body fV mF=>
  intro rf jW g lb own s ex s' a w Q hs hx hQ
  simp only[kj]at hx;split at hx
  ·rename_i f' BZ;split at hx
   ·rename_i hc;simp only[jv,gu,decide_eq_true_eq]at hc;exact afn hF hd (jW hc.1) iH vS hK hs BZ (Qm fL) (Qm body) hc.2 hx hQ
   ·cases hx
  ·cases hx
 |scope b ih=>
  intro rf jW g lb own s ex s' a w Q hs hx hQ
  simp only[kj]at hx;refine agx (ih rf jW g lb own s ex s' a w _ hs hx fun g1 uV tS a1 w1 k1 k2=>?_);have:=hQ _ _ _ _ _ k1 k2;cases ex<;>exact this
 |goto l=>intro rf jW g lb own s ex s' a w Q hs hx hQ;cases hx
 |refuse why=>intro rf jW g lb own s ex s' a w Q hs hx hQ;cases hx
end
section
variable(P:Program)
def IV:ResultVar->Option RV
 | .tmp t=>some (.tmp t)
 | .cell a t=>match vg P t,kI P t with
  |some ag,some n=>some (.cell a ag n)
  |_,_=>none
def xi:List ResultVar->Option (List RV)
 |[]=>some []
 |r::l=>match IV P r,xi l with
  |some a,some m=>some (a::m)
  |_,_=>none
end
section
variable{F:Fence}{n:Nat}{P:Program}{bJ:Nat->Bool}{N:Nat}{gl:Nat->AV}{base:Nat}{LC:eN}{cN:Nat}{aF:cx}
variable{g:Gh}{lb:LB}{own:OW}{s:St}{a:Act}{w:World}
theorem afh(hs:SR gl base N LC cN g lb own s a w){rv:ResultVar}{r:RV}(hc:IV P rv=some r){v:AV}(hv:r.get s=some v):
  ∃x,((match rv with| .tmp t=>pure (a.tmps.getD t undef)| .cell p t=>do loadVar t (<-asAddr (a.tmps.getD p undef)):Sem Value).run P w= .ok x w)/\VR g lb v x:=by
 cases rv with
 |tmp t=>
  cases hc
  simp only[RV.get,aZ]at hv;subst hv;exact⟨_,rfl,hs.env t⟩
 |cell p t=>
  simp only[IV]at hc
  split at hc
  ·rename_i ag m lO hm;cases hc;simp only[RV.get]at hv;split at hv
   ·rename_i cs pP;obtain⟨b,off,vs,e1,e2,e3,e4,e5,e6⟩:=TB hs.mem hs.loc (hs.env p) pP;obtain⟨s1,s2,s3⟩:=oA (P:=P) (w:=w) hm;have BP:=H8 (w:=w) lO;obtain⟨k1,k2⟩:=ID (a:=vs.toArray) (g:=g) (lb:=lb) ⟨by simp;omega,fun i hi aj=>e5 i hi (by simpa using aj)⟩ (by simpa using e6) hv;have n_:∀j v,vs[j]?=some v->w.cell? ((⟨b,off,none⟩:Addr).add j)=some v:=fun j v hj=>by rw[Addr.add_mid];exact e4 j v hj
    cases ag with
    |true=>
     refine⟨_,?_,k1 rfl⟩
     have zT:=run_loadCells_list (P:=P) w ⟨b,off,none⟩ vs n_;simp only[e1,asAddr,Sem.run_bind,Sem.run_pure,Result.andThen_ok,loadVar,BP,if_true,s1];rw[<-e2];simp only[zT,Result.andThen_ok]
    |false=>
     obtain⟨z,hz,wq⟩:=k2 rfl
     have zX:vs=[z]:=by simpa using hz
     subst zX;have h0:w.cell? ⟨b,off,none⟩=some z:=by simpa using e4 0 z (by simp)
     refine⟨z,?_,wq⟩;simp only[e1,asAddr,Sem.run_bind,Sem.run_pure,Result.andThen_ok,loadVar,BP,gY,if_false,run_load,h0]
   ·cases hv
  ·cases hc
theorem afi(hs:SR gl base N LC cN g lb own s a w):∀(Db:List ResultVar) (rs:List RV) (l:List AV),xi P Db=some rs->aY s rs=some l→
  ∃xs,(Db.mapM (fun rv=>(match rv with| .tmp t=>pure (a.tmps.getD t undef)| .cell p t=>do loadVar t (<-asAddr (a.tmps.getD p undef)):Sem Value))).run P w= .ok xs w/\PW (VR g lb) l xs:=by
 intro Db;induction Db with
 |nil=>
  intro rs l h1 h2
  cases h1;cases h2;exact⟨[],rfl,PW.nil⟩
 |cons rv Db ih=>
  intro rs l h1 h2
  simp only[xi]at h1;split at h1
  ·rename_i r m k1 k2;cases h1;simp only[aY]at h2;split at h2
   ·rename_i v hv;simp only[bH]at h2;obtain⟨l',h2,rfl⟩:=h2;obtain⟨x,q1,q2⟩:=afh hs k1 hv;obtain⟨xs,q3,q4⟩:=ih m l' k2 h2;refine⟨x::xs,?_,PW.cons q2 q4⟩;simp only[List.mapM_cons,Sem.run_bind,q1,Result.andThen_ok,q3,Sem.run_pure]
   ·cases h2
  ·cases h1
theorem afm(hs:SR gl base N LC cN g lb own s a w){fn:Func}{rs:List RV}(hc:xi P fn.results.toList=some rs){l:List AV}(hl:aY s rs=some l):
  ∃x,(results fn a.tmps).run P w= .ok x w/\VR g lb (aV l) x:=by
 obtain⟨xs,h1,h2⟩:=afi hs _ _ _ hc hl;have hr:(results fn a.tmps).run P w= .ok (if h:xs.toArray.size=1 then xs.toArray[0]else .tuple xs.toArray) w:=by
  unfold results;rw[Array.mapM_eq_mapM_toList];simp only[Sem.run_bind,map_eq_pure_bind]
  erw [h1]
  rfl
 refine⟨_,hr,?_⟩
 match l,xs,h2 with
 |[],[],h2=>exact .aP _ [] _ rfl (fun i hi=>by simp at hi)
 |[v],[x],h2=>exact h2.2 0 (by simp) (by simp)
 |v::v'::l,x::x'::xs,h2=>
  have:¬(x::x'::xs).toArray.size=1:=by simp
  rw[dif_neg this];exact .aP _ _ _ (by simpa using h2.1.symm) (fun i hi aj=>by have:=h2.2 i hi (by simpa using aj);simpa using this)
 |[],_::_,h2=>exact absurd h2.1 (by simp)
 |[_],[],h2=>exact absurd h2.1 (by simp)
 |[_],_::_::_,h2=>exact absurd h2.1 (by simp)
 |_::_::_,[],h2=>exact absurd h2.1 (by simp)
 |_::_::_,[_],h2=>exact absurd h2.1 (by simp)
theorem agi{g0:Gh}{HH:OW}{w0:World}(he:w0.heap.size<=cN){fn:Func}{T:Array Value}{R:Ending->World->Prop}:∀(ms:List Nat) (w:World),ms.Nodup->(∀r∈ms,cN<=r/\r<w.heap.size/\own r=none/\w.heap[r]?=some (.deferred (some [])))->dZ g0 HH w0 g own w→
   SR gl base N LC cN g lb own s {tmps:=T,defers:=ms.map yn} w→
   (∀w',dZ g0 HH w0 g own w'->SR gl base N LC cN g lb own s {tmps:=T,defers:=[]} w'->LeavesInM F n P fn T R [] .returning w')->LeavesInM F n P fn T R (ms.map yn) .returning w:=by
 intro ms;induction ms with
 |nil=>intro w _ _ h1 h2 hK;exact hK w h1 h2
 |cons r ms ih=>
  intro w xY nH h1 h2 hK
  obtain⟨k1,k2,k3,k4⟩:=nH r (by simp);obtain⟨Q7,xY⟩:=wY.1 xY;have iU:∀b',b'≠r->(ff w r (.deferred none)).heap[b']?=w.heap[b']?:=fun b' ak=>by simp only[ff];rw[Ic (Ne.symm ak)]
  have bh:(ff w r (.deferred none)).heap.size=w.heap.size:=by simp[ff]
  refine⟨by simp,.inl ⟨r,ff w r (.deferred none),rfl,?_,ih _ xY (fun r' gW=>?_) ?_ ?_ hK⟩⟩
  ·have q1:(getObj r).run P w= .ok (.deferred (some [])) w:=by simp only[getObj,Sem.run,k4]
   have q2:∀y,(setObj r y).run P w= .ok () (ff w r y):=fun y=>by simp only[setObj,Sem.run,k4];rfl
   simp only[Instr.takeDeferred,Sem.run_bind,q1,Result.andThen_ok,q2,Sem.run_pure]
  ·obtain⟨j1,j2,j3,j4⟩:=nH r' (AQ _ gW);exact⟨j1,by rw[bh];exact j2,j3,by rw[iU r' (by rintro rfl;exact Q7 gW)];exact j4⟩
  ·exact⟨h1.sub,by rw[bh];exact h1.size,h1.os,h1.tape,h1.output,fun b hb ho=>by rw[iU b (by omega)];exact h1.bw b hb ho,h1.jO,h1.im⟩
  ·have eS:∀b o,own b=some o->b≠r:=fun b o hb=>by rintro rfl;rw[k3]at hb;cases hb
   refine⟨h2.env,h2.gl,h2.size,?_,h2.mem.bw (Gh.eG _) (fun _ h=>h) (fun _ _ h=>h) (fun id b hb=>⟨rfl,iU b (eS b _ hb),fun _=>rfl⟩) (fun b o y hy=>?_),
    h2.loc.bw (Gh.eG _) (fun d b hb=>⟨rfl,iU b (eS b _ hb),fun _=>rfl⟩),⟨fun b o hb=>by rw[bh];exact h2.own.ge b o hb,by rw[bh];exact h2.own.base⟩⟩
   ·refine⟨by rw[bh];exact h2.defers.1,ms,xY,rfl,fun r' gW=>?_⟩;obtain⟨j1,j2,j3,j4⟩:=nH r' (AQ _ gW);exact⟨j1,by rw[bh];exact j2,j3,by rw[iU r' (by rintro rfl;exact Q7 gW)];exact j4⟩
   ·have ak:b≠r:=by
     rintro rfl
     have:=h2.mem.im _ _ _ hy;simp[ti,k4]at this
    rw[ph (iU b ak)];exact h2.mem.im _ _ _ hy
end
def Gh.fr(g:Gh)(own:OW)(w:World)(n:Nat):Gh:= {
 im b o:=match own b with
  |some (.m id)=>if n<=id then w.cell? ⟨b,o,none⟩else g.im b o
  |_=>g.im b o
 mb:=(g.cut n).mb
 rows:=(g.cut n).rows}
theorem Xo{g:Gh}{own:OW}{LC:eN}{mem:Mem}{w:World}(hm:a8 g own LC mem w)(n:Nat)(b o:Nat)(x:Value)(h:(g.fr own w n).im b o=some x):w.cell? ⟨b,o,none⟩=some x:=by
 simp only[Gh.fr]at h;split at h
 ·split at h
  ·exact h
  ·exact hm.im _ _ _ h
 ·exact hm.im _ _ _ h
theorem xt{g:Gh}{own:OW}{LC:eN}{mem:Mem}{w:World}(hm:a8 g own LC mem w)(n:Nat):(g.cut n).sub (g.fr own w n):=by
 refine⟨fun b o x hx=>?_,fun _ _ h=>h,fun _ _ _ h=>h⟩;have hx:g.im b o=some x:=hx;simp only[Gh.fr];split
 ·split
  ·exact hm.im _ _ _ hx
  ·exact hx
 ·exact hx
theorem V_{n:Nat}{hp:Nat->Nat->AV}{hs:Nat->Nat->Nat->Nat->AV}(h1:∀id off,(hp id off).cells=[hp id off])(h2:∀kd id off m,(hs kd id off m).cells=[hs kd id off m])(v:AV):
  (bK n hp hs v).cells=v.cells.map (bK n hp hs):=by
 cases v with
 |ν id off=>
  by_cases h:id<n
  ·simp[bK,AV.cells,h]
  ·have e:bK n hp hs (.ν id off)=hp id off:=by simp[bK,h]
   rw[e,h1,<-e];rfl
 |sl kd id off m cap=>
  by_cases h:id<n
  ·simp[bK,AV.cells,h]
  ·have e:bK n hp hs (.sl kd id off m cap)=hs kd id off m:=by simp[bK,h]
   rw[e,h2,<-e];rfl
 |fn f a b=>simp only[bK,AV.cells,ay,aA];by_cases h:Fn.below n f=true<;>simp[h]
 |map id=>simp only[bK,AV.cells,ay,aA];by_cases h:id<n<;>simp[h]
 |_=>simp[bK,AV.cells,nZ]
theorem I0(s:Nat):∀(m:Nat) (l:List AV),(chunk s m l).length=m:=by
 intro m;induction m with
 |zero=>intro l;rfl
 |succ m ih=>intro l;simp[chunk,ih]
theorem Pk(s:Nat):∀(m:Nat) (l:List AV) (i:Nat) (h:i<(chunk s m l).length),(chunk s m l)[i]= .agg ((l.drop (i*s)).take s):=by
 intro m;induction m with
 |zero=>intro l i h;simp[chunk]at h
 |succ m ih=>
  intro l i h
  cases i with
  |zero=>simp[chunk]
  |succ i=>
   simp only[chunk,List.getElem_cons_succ]
   rw[ih];rw[List.drop_drop,kM,Nat.one_mul,yQ]
section
variable{g:Gh}{own:OW}{LC:eN}{mem:Mem}{w:World}
theorem NJ(hm:a8 g own LC mem w){id b n:Nat}{l:List AV}(hb:g.mb id=some b)(hl:mem.ε[id]?=some (.cells l))(hn:¬id<n):
  ∃a:Array Value,a.size=l.length/\(∀i (h:i<a.size),(g.fr own w n).im b i=some a[i]/\a[i].oneCell'=true)/\∀i (h:i<l.length) (h':i<a.size),VR g bS l[i] a[i]:=by
 obtain⟨b',k1,k2,k3,a,e,k4,k5,k6,k7⟩:=hm.blk id _ hl;rw[hb]at k1;cases k1;refine⟨a,k5,fun i h=>⟨?_,k7 i h⟩,fun i h h'=>k6 i h h'⟩;simp only[Gh.fr,k2];rw[if_pos (by omega)];simp[ti,k4,h]
theorem Ez(bs:List κ)(n k:Nat)(v:AV):(ai bs n k v).cells=v.cells.map (ai bs n k):=by
 cases k with
 |zero=>exact D5 n false v
 |succ k=>
  refine V_ (fun id off=>?_) (fun kd id off m=>?_) v
  ·split<;>rfl
  ·(repeat' split)<;>rfl
theorem Xw(hm:a8 g own LC mem w)(n:Nat):∀(k:Nat) {lb lb':LB} {v:AV} {x:Value},VR g lb v x->VR (g.fr own w n) lb' (ai mem.ε n k v) x:=by
 intro k;induction k with
 |zero=>intro lb lb' v x h;exact(h.exp n false).sub (xt hm n)
 |succ k Cz=>
  intro lb lb' v x h
  induction h generalizing lb' with
  |undef=>exact .undef _
  |cR _ x h=>exact .cR _ x h
  |int _ k n=>exact .int _ k n
  |bool _ b=>exact .bool _ b
  |str _ b s h=>exact .str _ b s h
  |iK=>exact .iK _
  |ae _ d v off b h=>exact .cR _ _ rfl
  |ν _ id off b h=>
   simp only[ai,bK]
   split
   ·rename_i hi;exact .ν _ id off b (by simp only[Gh.fr,Gh.cut,hi,if_true];exact h)
   ·rename_i hi;split
    ·rename_i l hl;obtain⟨a,h1,h2,h3⟩:=NJ hm h hl hi;refine .ref _ _ b off (fun i=>a.getD (off+i) undef) (fun i aj=>?_) (fun i aj=>?_)
     ·simp at aj;have ρ:off+i<a.size:=by omega
      have:=h2 (off+i) ρ;simpa[rz,ρ]using this
     ·simp at aj;have ρ:off+i<a.size:=by omega
      have:=Cz (lb':=bS) (h3 (off+i) (by omega) ρ);simpa[rz,ρ]using this
    ·exact .cR _ _ rfl
  |ref _ l b o xs cu _ ih=>
   simp only[ai,bK,nZ]
   refine .ref _ _ b o xs (fun i hi=>?_) (fun i hi=>?_)
   ·have:=cu i (by simpa using hi);exact⟨(xt hm n).1 _ _ _ this.1,this.2⟩
   ·simp only[iz];exact ih i (by simpa using hi)
  |iJ=>
   simp only[ai,bK,nZ,aA,χ.exp]
   exact .iJ _
  |sl _ kd id off m cap b hc h=>
   simp only[ai,bK]
   split
   ·rename_i hi;exact .sl _ kd id off m cap b hc (by simp only[Gh.fr,Gh.cut,hi,if_true];exact h)
   ·rename_i hi;split
    ·rename_i l hl;obtain⟨a,h1,h2,h3⟩:=NJ hm h hl hi;split
     ·rename_i vW;split
      ·rename_i zQ;subst zQ;have ag7:off+m<=l.length:=by have e0:Nat.max 0 1=1:=rfl;rw[e0]at vW;omega
       split
       ·rename_i GV;simp only[gu]at GV;have GD:∀v,v∈(l.drop off).take m->(ai mem.ε n k v).cells=[ai mem.ε n k v]:=fun v hv=>by rw[Ez];have:=GV v hv;cases v<;>simp_all [AV.cells,AV.one]
        refine .list _ .any _ b off 1 m cap (fun i _=>a.getD (off+i) undef) (by simp;omega) hc trivial (fun e he=>?_) (fun i aj j hj=>?_) (fun i aj j hj=>?_)
        ·obtain⟨v,hv,rfl⟩:=jy.1 he;rw[GD v hv];rfl
        ·obtain rfl:j=0:=by omega
         have ρ:off+i<a.size:=by omega
         have:=h2 (off+i) ρ;simpa[rz,ρ]using this
        ·simp at aj;have ρ:off+i<a.size:=by omega
         have ca:l[off+i]'(by omega)∈(l.drop off).take m:=by rw[qo];exact⟨i,by simp;omega,by simp⟩
         have e1:((((l.drop off).take m).map (ai mem.ε n k))[i]'(by simp;omega))=ai mem.ε n k (l[off+i]'(by omega)):=by simp
         have e2:=GD _ ca;have Zj:j=0:=by have:=hj;simp only[e1,e2,List.length_cons,List.length_nil]at this;omega
         subst Zj;have:=Cz (lb':=bS) (h3 (off+i) (by omega) ρ);simp only[e1,e2,List.getElem_cons_zero];simpa[rz,ρ]using this
       ·exact .cR _ _ rfl
      ·rename_i zQ;have lU:Nat.max kd 1=kd:=Nat.max_eq_left (by omega);rw[lU]at vW;have hbound:∀i j,i<m->j<kd->off+(i*kd+j)<l.length:=by intro i j hi hj;have:=Ha hi hj;omega
       refine .list _ .any _ b off kd m cap (fun i j=>a.getD (off+(i*kd+j)) undef) (I0 _ _ _) hc trivial (fun e he=>?_) (fun i aj j hj=>?_) (fun i aj j hj=>?_)
       ·obtain⟨i,oa,rfl⟩:=qo.1 he;rw[Pk];simp only[AV.cells,mf,kK,dd];rw[I0]at oa;have h5:(i+1)*kd<=m*kd:=Nat.mul_le_mul_right _ oa;rw[kM]at h5;omega
       ·have ρ:off+(i*kd+j)<a.size:=by rw[h1];exact hbound i j aj hj
        have:=h2 _ ρ;simpa[rz,ρ]using this
       ·have oa:i<m:=by rw[I0]at aj;exact aj
        have e0:=Pk kd m ((l.drop off).map (ai mem.ε n k)) i aj;have xO:j<kd:=by have:=hj;rw[e0]at this;simp only[AV.cells,mf,kK,dd]at this;omega
        have ρ:off+(i*kd+j)<a.size:=by rw[h1];exact hbound i j oa xO
        have:=Cz (lb':=bS) (h3 _ (hbound i j oa xO) ρ);have e1:(((chunk kd m ((l.drop off).map (ai mem.ε n k)))[i]'aj).cells[j]'hj)=ai mem.ε n k (l[off+(i*kd+j)]'(hbound i j oa xO)):=by simp only[e0,AV.cells,List.getElem_take,List.getElem_drop,iz]
        rw[e1];simpa[rz,ρ]using this
     ·exact .cR _ _ rfl
    ·exact .cR _ _ rfl
  |gX _ c a cap hc=>
   have he:ai mem.ε n (k+1) (.list c [])= .list (c.exp n false) []:=by simp only[ai,bK,nZ,aA]
   rw[he];refine .gX _ _ a cap ?_;rcases hc with rfl|⟨rfl,h⟩<;>exact .inl rfl
  |list _ c l b o sz m cap xs ly db hc bh cu _ ih=>
   have he:ai mem.ε n (k+1) (.list c l)= .list (c.exp n false) (l.map (ai mem.ε n (k+1))):=by simp only[ai,bK,nZ]
   rw[he];have BV:∀v,(ai mem.ε n (k+1) v).cells=v.cells.map (ai mem.ε n (k+1)):=Ez _ _ _;refine .list _ _ _ b o sz m cap xs (by simpa using ly) db (Ph (xt hm n) (Pg hc)) ?_ (fun i hi j hj=>?_) ?_
   ·intro e he;obtain⟨e',fT,rfl⟩:=jy.1 he;rw[BV,dd];exact bh e' fT
   ·have:=cu i hi j hj;exact⟨(xt hm n).1 _ _ _ this.1,this.2⟩
   ·intro i hi j hj;have aj:i<l.length:=by simpa using hi
    have dp:j<l[i].cells.length:=by simpa[BV]using hj
    have:=ih i aj j dp (lb':=bS);simpa[BV]using this
  |agg _ l a hs h1 _ ih=>
   simp only[ai,bK,nZ]
   refine .agg _ _ a (by simpa using hs) h1 fun i hi aj=>?_;simp only[iz];exact ih i (by simpa using hi) aj
  |aP _ l a hs _ ih=>
   simp only[ai,bK,nZ]
   refine .aP _ _ a (by simpa using hs) fun i hi aj=>?_;simp only[iz];exact ih i (by simpa using hi) aj
  |fn _ f f' l m' a b hs ht hy _ _ mZ kT=>
   simp only[ai,bK,nZ]
   split
   ·rename_i hf;refine .fn _ f f' _ _ a b (by simpa using hs) (by simpa using ht) ?_ (fun i hi aj=>?_) (fun i hi aj=>?_)
    ·cases f<;>cases f'<;>first|exact hy|exact hy.elim|skip
     simp only[Fn.below,decide_eq_true_eq]at hf;simp only[rA,Gh.fr,Gh.cut,hf,if_true];exact hy
    ·simp only[iz];exact mZ i (by simpa using hi) aj
    ·simp only[iz];exact kT i (by simpa using hi) aj
   ·exact .cR _ _ rfl
  |eJ=>exact .eJ _
  |iface _ t v x _ ih=>exact .iface _ t _ x ih
  |fY=>exact .fY _
  |map _ id b h=>
   simp only[ai,bK]
   split
   ·rename_i hi;exact .map _ id b (by simp only[Gh.fr,Gh.cut,hi,if_true];exact h)
   ·exact .cR _ _ rfl
  |fJ=>exact .fJ _
theorem Xp{n:Nat}{m':Mem}(hm:a8 g own LC mem w)(h:a8 (g.cut n) (o6 n own) LC m' w):a8 (g.fr own w n) (o6 n own) LC m' w:=by
 refine h.bw (xt hm n) (fun _ h=>h) (fun _ _ h=>h) (fun id b hb=>⟨rfl,rfl,fun o=>?_⟩) (fun b o x hx=>Xo hm n b o x hx);have h1:=(Aj hb).1;have h2:id<n:=by
  simp only[o6,h1]at hb;split at hb
  ·assumption
  ·cases hb
 simp only[Gh.fr,h1];rw[if_neg (by omega)];rfl
end
def M_(F:Fence)(n:Nat)(P:Program)(run:Result Next)(w:World)(R:Value->World->Prop):Prop:=
 (∃(f:FuncId) (as:Array Value),run= .ok (.enter f as) w/\CallsIn F n P f as w fun e w'=>∃x,e= .returned x/\R x w')∨
 (∃x w',run= .ok (.value x) w'/\R x w')∨
 (∃(l:Nat) (f:FuncId) (tmps:Array Value) (assign body:Code),run= .ok (.round l f tmps assign body) w∧
  RoundIn F n P l f tmps assign body w fun e w'=>∃x,e= .returned x/\R x w')
def mj(F:Fence)(P:Program)(base:Nat)(LC:eN)(gl:Nat->AV)(f:FuncId)(p:Prim):Prop:=
 ∀(n:Nat) (g:Gh) (own:OW) (mem:Mem) (w:World) (args:List AV) (r:AV) (m':Mem) (bR:Array Value),
  a8 g own LC mem w->bV base own w->mJ g gl->PW (VR g bS) args bR.toList->p args mem=some (r,m')→
  M_ F n P ((callFunc f bR).run P w) w (nS base LC gl g own w r m')
def l_(P:Program):eN:=fun N a c=>∃bJ,a=kj P bJ N false c
structure az (P:Program) (f:FuncId) (g:AF):Prop where
 ex:∃fn c bJ,P.funcs[f]?=some fn/\fn.body=some c/\(fn.name== "runtime.NumGoroutine")=false/\g.code=kj P bJ fn.ntmps true c/\xi P fn.results.toList=some g.results
structure Dt (F:Fence) (P:Program) (base:Nat) (C:iM):Prop where
 fs:∀f g,C.fs f=some g->az P f g
 jm:∀f p,C.jm f=some p->mj F P base (l_ P) C.gl f p
 HM:∀f p,C.jm f=some p->∀args m r m',p args m=some (r,m')->KM m m'
 Mp:∀f p,C.jm f=some p->(∃fn,P.funcs[f]?=some fn/\fn.body.isNone=false/\(fn.name== "runtime.NumGoroutine")=false)∨
  ∀first cap l mem,p ((first++[.fn (.yield l) [] []]++cap).map (exp mem.ε.length (C.bw f))) mem=none
section
variable{F:Fence}{n:Nat}{P:Program}{bJ:Nat->Bool}{N:Nat}{gl:Nat->AV}{base:Nat}{LC:eN}{cN:Nat}{aF:cx}
variable{g:Gh}{lb:LB}{own:OW}{s:St}{a:Act}{w:World}
theorem Pr{C:iM}(hC:Dt F P base C):∀k,AI P (cv C k):=by
 intro k;cases k with
 |zero=>intro f first cap l mem r h;simp[cv]at h
 |succ k=>
  intro f first cap l mem r h
  simp only[cv,body]at h;split at h
  ·rename_i p hp;rcases hC.Mp f p hp with h1|h1
   ·exact h1
   ·rw[h1]at h;cases h
  ·split at h
   ·rename_i g hg;obtain⟨fn,c,bJ,h1,h2,h3,h4,h5⟩:=(hC.fs f g hg).ex;exact⟨fn,h1,by simp[h2],h3⟩
   ·cases h
theorem u3{own:OW}{b id:Nat}(h:own b=some (.m id)):eh own b=some (.m id):=by simp[eh,h]
theorem S7{own:OW}{b:Nat}(h:own b=none):eh own b=none:=by simp[eh,h]
theorem a8.eh{mem:Mem}(h:a8 g own LC mem w):a8 g (eh own) LC mem w:=
 h.bw g.eG (fun _ h=>h) (fun _ _ h=>h) (fun id b hb=>⟨by rw[u3 hb,hb],rfl,fun _=>rfl⟩) h.im
theorem a8.Ui{mem:Mem}(h:a8 g own LC mem w)(t:List Nat):a8 g own LC {ε:=mem.ε,θ:=t} w:=⟨h.iR,h.na,h.blk,h.im⟩
theorem bV.eh(h:bV base own w):bV base (eh own) w:=⟨fun b o hb=>h.ge b o (tV hb).1,h.base⟩
theorem XC(args:Array Value)(k t:Nat):(args++aid k undef).getD t undef=args.getD t undef:=by
 simp only[rz,Array.getElem?_append];split
 ·rfl
 ·rename_i h;rw[aic (xs:=args) (by omega)];by_cases h2:t-args.size<k
  ·simp[h2]
  ·simp[h2]
theorem XE(l:List AV)(t:Nat):ζ l t=(l[t]?).getD .undef:=by
 induction l generalizing t with
 |nil=>simp[ζ]
 |cons a l ih=>cases t with
  |zero=>rfl
  |succ t=>simp[ζ,ih]
theorem WQ{args:List AV}{bR:Array Value}(h:PW (VR g lb) args bR.toList)(k t:Nat):VR g lb (ζ args t) ((bR++aid k undef).getD t undef):=by
 rw[XC,XE,rz];rcases bP t args.length with ρ|cG
 ·have dq:t<bR.size:=by have:=h.1;simp at this;omega
  have:=h.2 t ρ (by simpa using dq);simpa[ρ,dq]using this
 ·have B5:bR.size<=t:=by have:=h.1;simp at this;omega
  rw[gZ cG,aic B5];exact .undef _
theorem Xk(hF:∀f,F.fn f)(hd:F.depth=none)(sr:F.round=none)(iH:np F P base (l_ P) gl aF)(vS:AI P aF)(hK:KC aF){m:Nat}
  {f:FuncId} {fn:Func} {c:Code} (Kh:P.funcs[f]?=some fn) (Ki:fn.body=some c) {gf:AF} (YU:gf.code=kj P bJ fn.ntmps true c) (YV:xi P fn.results.toList=some gf.results)
  {mem:Mem} (hm:a8 g own (l_ P) mem w) (ho:bV base own w) (di:mJ g gl) {args:List AV} {bR:Array Value} (jd:PW (VR g bS) args bR.toList) {bw:Bool} {r:AV} {m':Mem}
  (hx:fin gf bw mem (exec gl aF (fD m) gf.code {env:=args,loc:=[],mem:= {ε:=mem.ε,θ:=[]}})=some (r,m')):
  CallsIn F n P f bR w fun e w'=>∃x,e= .returned x/\nS base (l_ P) gl g own w r m' x w':=by
 generalize hex:exec gl aF (fD m) gf.code _=y at hx;cases y with
 |none=>simp[fin]at hx
 |some y=>
 obtain⟨ex,s'⟩:=y
 have X2:=zf hK (IC m) _ _ _ _ hex;rw[YU]at hex;have kS:SR gl base fn.ntmps (l_ P) w.heap.size g bS (eh own) {env:=args,loc:=[],mem:= {ε:=mem.ε,θ:=[]}}
   {tmps:=bR++aid (fn.ntmps-bR.size) undef,defers:=[]} w:=by
  refine⟨fun t=>WQ jd _ t,di,by simp;omega,Marks.nil (bF _),hm.eh.Ui _,⟨fun d v l h=>(by cases h),fun d v s p h=>(by cases h),fun d v b h=>(by cases h)⟩,ho.eh⟩
 refine callsIn_of_wp_marks Kh Ki (hF f) ?_ sr;refine I5 hF hd iH vS hK (fun c=>⟨bJ,rfl⟩) m c true (fun _=>sr) g bS (eh own) _ ex s' _ w _ kS hex fun g' lb' aO a' w' h1 h2=>?_;have mT:(match aY s' gf.results with
   |some l=>if bw then some (exp s'.mem.ε.length true (aV l),({ε:=s'.mem.ε,θ:=mem.θ++s'.mem.θ}:Mem))
    else some (ai s'.mem.ε mem.ε.length 8 (aV l),mem.back s'.mem)
   |none=>none)=some (r,m')->LeavesInM F n P fn a'.tmps (fun e w'=>∃x,e=Ending.returned x/\nS base (l_ P) gl g own w r m' x w') a'.defers .returning w':=by
  intro hx;obtain⟨h0,ms,xY,QI,nH⟩:=h2.defers;have pv:SR gl base fn.ntmps (l_ P) w.heap.size g' lb' aO s' {tmps:=a'.tmps,defers:=ms.map yn} w':=by rw[<-QI];exact h2
  rw[QI];refine agi (bF _) ms w' xY nH h1 pv fun w2 k1 k2=>?_;split at hx
  ·rename_i l hl;obtain⟨x,q1,q2⟩:=afm k2 YV hl;refine⟨x,q1,x,rfl,?_⟩;split at hx
   ·simp only[aZ,aN]at hx;obtain⟨rfl,rfl⟩:=hx;refine⟨g',eh aO,⟨k1.sub,k1.size,k1.os,k1.tape,k1.output,k1.bw,fun b hb h=>S7 (k1.jO b hb h),k1.im⟩,k2.mem.eh.Ui _,(q2.exp _ _).sub (g'.Ja _),k2.own.eh,fun b d hb=>?_,k2.gl⟩;obtain⟨_,id,h⟩:=tV hb;cases h
   ·simp only[aZ,aN]at hx;obtain⟨rfl,rfl⟩:=hx;have hb:=ND hm (extra:=[]) k2.mem (by rw[List.append_nil];exact X2);have dH:g.sub (g'.cut mem.ε.length):=by
     refine⟨fun b o y hy=>k1.sub.1 b o y hy,fun id b hb=>?_,fun t k y hy=>?_⟩
     ·simp only[Gh.cut];rw[if_pos (hm.iR id b hb)];exact k1.sub.2.1 _ _ hb
     ·simp only[Gh.cut];rw[if_pos (hm.na t k y hy)];exact k1.sub.2.2 _ _ _ hy
    refine⟨g'.fr aO w2 mem.ε.length,o6 mem.ε.length aO,⟨Gh.Di dH (xt k2.mem _),k1.size,k1.os,k1.tape,k1.output,k1.bw,fun b hb h=>S0 (k1.jO b hb h),fun b hb h o=>?_⟩,Xp k2.mem hb,Xw k2.mem _ _ q2,
     ⟨fun b o hb=>k2.own.ge b o (Aj hb).1,k2.own.base⟩,fun b d hb=>?_,di.mono (Gh.Di dH (xt k2.mem _))⟩
    ·have hu:=k1.jO b hb h;have:(g'.fr aO w2 mem.ε.length).im b o=g'.im b o:=by simp only[Gh.fr,hu]
     rw[this];exact k1.im b hb h o
    obtain⟨_,id,h⟩:=Aj hb;cases h
  ·cases hx
 cases ex with
 |exit i=>simp[fin]at hx
 |normal=>exact mT hx
 |ret=>exact mT hx
end
section
variable{F:Fence}{n:Nat}{P:Program}{bJ:Nat->Bool}{N:Nat}{gl:Nat->AV}{base:Nat}{LC:eN}{cN:Nat}{aF:cx}
variable{g:Gh}{lb:LB}{own:OW}{s:St}{a:Act}{w:World}
theorem L0{m:Mem}{l:Nat}{st:LS}(h:m.ls l=some st):∃e p q c,m.ε[l]?=some (.loop e p q c st):=by
 unfold Mem.ls at h;split at h
 ·rename_i e p q c br he;cases h;exact⟨e,p,q,c,he⟩
 ·cases h
theorem TP(hs:SR gl base N LC cN g lb own s a w){l b:Nat}(hb:g.mb l=some b){Ax:LS}(oc:s.mem.ls l=some Ax){st:LS}{L L':Loop}(hL:w.heap[b]?=some (.loop L))
  (h1:L'.tmps=L.tmps) (h2:L'.params=L.params) (h3:L'.assign=L.assign) (h4:L'.body=L.body) (ψ:Nb st L'):
  ∃g' lb' aO,dZ g own w g' aO (ff w b (.loop L'))/\SR gl base N LC cN g' lb' aO {s with mem:=s.mem.kH l st} a (ff w b (.loop L')):=by
 obtain⟨e,p,q,c,gi⟩:=L0 oc;obtain⟨b',b1,b2,b3,L2,N2,b4,b5,b6,b7,b8,b9,yV,tn,A3⟩:=hs.mem.blk l _ gi;rw[hb]at b1;cases b1;rw[hL]at b4;cases b4;have hid:l<s.mem.ε.length:=(kg.1 gi).1;have hp:=Df (x:= .loop L') (blk:= .loop e p q c st) hs.mem hs.loc hs.own b2 hid b3
  ⟨b,hb,b2,b3,L',N2,At hL _,by rw[h1];exact b5,by rw[h2];exact b6,by rw[h1];exact b7,b8,by rw[h3];exact b9,by rw[h4];exact yV,ψ,A3⟩
 obtain⟨g',lb',aO,k1,k2⟩:=hs.after (dst:=none) rfl hp;refine⟨g',lb',aO,k1,?_⟩;have:s.mem.kH l st=s.mem.put l (.loop e p q c st) true:=by simp only[Mem.kH,gi,Mem.put,if_true]
 rw[this];exact k2
theorem Vq(hs:SR gl base N LC cN g lb own s a w){l b:Nat}(hb:g.mb l=some b)(oc:s.mem.ls l=some .ready):
  ∃w',(Instr.beginRound b).run P w= .ok () w'/\∃g' lb' aO,dZ g own w g' aO w'/\SR gl base N LC cN g' lb' aO {s with mem:=s.mem.kH l .busy} a w':=by
 obtain⟨e,p,q,c,gi⟩:=L0 oc;obtain⟨b',b1,b2,b3,L,N2,b4,b5,b6,b7,b8,b9,yV,tn,A3⟩:=hs.mem.blk l _ gi;rw[hb]at b1;cases b1;obtain⟨g',lb',aO,k1,k2⟩:=TP hs hb oc (st:= .busy) (L':= {L with state:= .busy}) b4 rfl rfl rfl rfl rfl;refine⟨_,?_,g',lb',aO,k1,k2⟩;have q1:(getObj b).run P w= .ok (.loop L) w:=by simp only[getObj,Sem.run,b4]
 have q2:∀y,(setObj b y).run P w= .ok () (ff w b y):=fun y=>by simp only[setObj,Sem.run,b4];rfl
 simp only[Instr.beginRound,Instr.getLoop,Sem.run_bind,q1,Result.andThen_ok,Sem.run_pure,q2,tn.1]
theorem WO(hs:SR gl base N LC cN g lb own s a w){l b:Nat}(hb:g.mb l=some b)(oc:s.mem.ls l=some .busy){jump:Option Code}{st:LS}
  (hj:(jump=none/\st= .ready)\/(jump=some .ret/\st= .done none)\/∃i,jump=some (.exit i)/\st= .done (some i)):
  ∃w',(Instr.endRound b jump).run P w= .ok (.bool jump.isNone) w'/\∃g' lb' aO,dZ g own w g' aO w'/\SR gl base N LC cN g' lb' aO {s with mem:=s.mem.kH l st} a w':=by
 obtain⟨e,p,q,c,gi⟩:=L0 oc;obtain⟨b',b1,b2,b3,L,N2,b4,b5,b6,b7,b8,b9,yV,tn,A3⟩:=hs.mem.blk l _ gi;rw[hb]at b1;cases b1;obtain⟨g',lb',aO,k1,k2⟩:=TP hs hb oc (st:=st) (L':= {L with state:=if jump.isNone then .ready else .done,pending:=jump}) b4 rfl rfl rfl rfl (by
  rcases hj with⟨rfl,rfl⟩|⟨rfl,rfl⟩|⟨i,rfl,rfl⟩
  ·exact⟨rfl,rfl⟩
  ·exact⟨rfl,trivial⟩
  ·exact⟨rfl,rfl⟩)
 refine⟨_,?_,g',lb',aO,k1,k2⟩;have q1:(getObj b).run P w= .ok (.loop L) w:=by simp only[getObj,Sem.run,b4]
 have q2:∀y,(setObj b y).run P w= .ok () (ff w b y):=fun y=>by simp only[setObj,Sem.run,b4];rfl
 simp only[Instr.endRound,Instr.getLoop,Sem.run_bind,q1,Result.andThen_ok,Sem.run_pure,q2]
theorem af3{N:Nat}:∀(ps:List Nat) (args:List AV) (bR:List Value) (env:List AV) (tmps:Array Value),ps.length=args.length->PW (VR g bS) args bR->N<=tmps.size->(∀p∈ps,p<N)→
  (∀t,VR g bS (ζ env t) (tmps.getD t undef))→
  (∀t,VR g bS (ζ (va env ps args) t) (((ps.zip bR).foldl (fun tmps (x:Nat×Value)=>tmps.setIfInBounds x.1 x.2) tmps).getD t undef))∧
   N<=((ps.zip bR).foldl (fun tmps (x:Nat×Value)=>tmps.setIfInBounds x.1 x.2) tmps).size:=by
 intro ps;induction ps with
 |nil=>
  intro args bR env tmps hl cU hN hp hv
  cases args with
  |nil=>exact⟨by simpa[va]using hv,by simpa using hN⟩
  |cons a args=>simp at hl
 |cons p ps ih=>
  intro args bR env tmps hl cU hN hp hv
  cases args with
  |nil=>simp at hl
  |cons x args=>
   cases bR with
   |nil=>exact absurd cU.1 (by simp)
   |cons y bR=>
    simp only[va,List.zip_cons_cons,List.foldl_cons]
    refine ih args bR (rp env p x) (tmps.setIfInBounds p y) (by simpa using hl) ⟨by simpa using cU.1,fun i hi aj=>by have:=cU.2 (i+1) (by simpa using hi) (by simpa using aj);simpa using this⟩ (by simpa using hN) (fun q hq=>hp q (AQ _ hq)) fun t=>?_;rw[gg,rz,Array.getElem?_setIfInBounds];have bW:=hp p (by simp);by_cases KX:p=t
    ·subst KX;rw[if_pos rfl,if_pos rfl,if_pos (by omega)];exact cU.2 0 (by simp) (by simp)
    ·rw[if_neg KX,if_neg KX,<-rz];exact hv t
theorem np.inRound(h:np F P base LC gl aF)(b:Nat):np (F.inRound b) P base LC gl aF:=
 fun n g lb own mem w fv args r m' fx bR h1 h2 h3 h4 h5 h6=>h n g lb own mem w fv args r m' fx bR h1 h2 h3 h4 h5 h6
theorem afr(hF:∀f,F.fn f)(hd:F.depth=none)(iH:np F P base (l_ P) gl aF)(vS:AI P aF)(hK:KC aF){m:Nat}
  {l b:Nat} (hb:g.mb l=some b) {mem:Mem} (hm:a8 g own (l_ P) mem w) (ho:bV base own w) (di:mJ g gl) {args:List AV} {bR:Array Value} (jd:PW (VR g lb) args bR.toList) {r:AV} {m':Mem}
  (hx:round (exec gl aF (fD m)) l args mem=some (r,m')):
  ∃nD tmps fL yZ,(Instr.yield b bR).run P w= .ok (.round b nD tmps fL yZ) w∧
   RoundIn F n P b nD tmps fL yZ w fun e w'=>∃x,e= .returned x/\nS base (l_ P) gl g own w r m' x w':=by
 unfold round at hx;split at hx
 ·rename_i env ps fL body st gi;split at hx
  ·rename_i hlen;split at hx
   ·rename_i s1 Qw;split at hx
    ·rename_i ZC;obtain⟨b',b1,b2,b3,L,N,b4,b5,b6,b7,b8,b9,yV,tn,A3⟩:=hm.blk l _ gi;rw[hb]at b1;cases b1;obtain⟨WR,GJ⟩:=b9;obtain⟨WS,gM⟩:=yV;have bh:args.length=bR.size:=by simpa using jd.1
     have oN:PW (VR g bS) (args.map (exp mem.ε.length false)) bR.toList:=jd.map _ fun a b h=>(h.exp _ _).sub (g.Ja _);obtain⟨v1,v2⟩:=af3 ps (args.map (exp mem.ε.length false)) bR.toList env L.tmps (by simpa using hlen) oN b7 b8 b5;have YZ:(L.params.zip bR).foldl (fun tmps (x:Nat×Value)=>tmps.setIfInBounds x.1 x.2) L.tmps=(ps.zip bR.toList).foldl (fun tmps (x:Nat×Value)=>tmps.setIfInBounds x.1 x.2) L.tmps:=by rw[<-Array.foldl_toList,Array.toList_zip,b6]
     refine⟨L.fn,(ps.zip bR.toList).foldl (fun tmps (x:Nat×Value)=>tmps.setIfInBounds x.1 x.2) L.tmps,L.assign,L.body,?_,roundIn_of_wpIn (hF _) ?_⟩
     ·have q1:(getObj b).run P w= .ok (.loop L) w:=by simp only[getObj,Sem.run,b4]
      have bA:bR.size=L.params.size:=by rw[b6];simp;omega
      simp only[Instr.yield,Instr.getLoop,Sem.run_bind,q1,Result.andThen_ok,Sem.run_pure];rw[if_neg (by simp[bA]),<-YZ];rfl
     ·have kS:SR gl base N (l_ P) w.heap.size g bS (eh own) {env:=va env ps (args.map (exp mem.ε.length false)),loc:=[],mem:=mem}
        {tmps:=(ps.zip bR.toList).foldl (fun tmps (x:Nat×Value)=>tmps.setIfInBounds x.1 x.2) L.tmps,defers:=[]} w:=
       ⟨v1,di,v2,Marks.nil (bF _),hm.eh,⟨fun d v l h=>(by cases h),fun d v s p h=>(by cases h),fun d v b h=>(by cases h)⟩,ho.eh⟩
      rw[GJ]at Qw;refine I5 (F:=F.inRound b) hF hd (iH.inRound b) vS hK (fun c=>⟨WR,rfl⟩) m L.assign false (by simp) g bS (eh own) _ .normal s1 _ w _ kS Qw fun g1 uV tS a1 w1 h1 h2=>?_;obtain⟨w2,iG,g2,CM,wH,h3,h4⟩:=Vq (P:=P) h2 (h1.sub.2.1 _ _ hb) ZC;refine⟨w2,iG,?_⟩;have fin:∀(ex:Ex) (s2:St) (jump:Option Code) (br:LS),((jump=none/\br= .ready)\/(jump=some .ret/\br= .done none)\/∃i,jump=some (.exit i)/\br= .done (some i))→
        exec gl aF (fD m) body {s1 with mem:=s1.mem.kH l .busy}=some (ex,s2)->s2.mem.ls l=some .busy->r= .bool jump.isNone->m'=s2.mem.kH l br→
        (∀a3 w3,(∃v w',(Instr.endRound b jump).run P w3= .ok v w'/\∃x,Ending.returned v= .returned x/\nS base (l_ P) gl g own w r m' x w')→
         roundPost P b (fun e w'=>∃x,e= .returned x/\nS base (l_ P) gl g own w r m' x w') ex.zg a3 w3)→
        L.body.wpIn (F.inRound b) n P (roundPost P b fun e w'=>∃x,e= .returned x/\nS base (l_ P) gl g own w r m' x w') a1 w2:=by
       intro ex s2 jump br hj vR xT hr ly pN;rw[gM]at vR;refine I5 (F:=F.inRound b) hF hd (iH.inRound b) vS hK (fun c=>⟨WS,rfl⟩) m L.body false (by simp) g2 CM wH _ ex s2 _ w2 _ h4 vR fun g3 lb3 tT a3 w3 h5 h6=>?_;obtain⟨w4,pC,g4,lb4,ael,h7,h8⟩:=WO (P:=P) h6 (h5.sub.2.1 _ _ (h3.sub.2.1 _ _ (h1.sub.2.1 _ _ hb))) xT hj;refine pN a3 w3 ⟨_,w4,pC,_,rfl,?_⟩;have k:=((h1.trans h3).trans h5).trans h7;subst hr ly;refine⟨g4,eh ael,⟨k.sub,k.size,k.os,k.tape,k.output,k.bw,fun b hb h=>S7 (k.jO b hb h),k.im⟩,h8.mem.eh,.bool _ _,h8.own.eh,fun b d hb=>?_,h8.gl⟩;obtain⟨_,id,h⟩:=tV hb;cases h
      split at hx
      ·rename_i s2 vR;split at hx
       ·rename_i xT;cases hx;exact fin .normal s2 none .ready (.inl ⟨rfl,rfl⟩) vR xT rfl rfl fun a3 w3 h=>h
       ·cases hx
      ·rename_i s2 vR;split at hx
       ·rename_i xT;cases hx;exact fin .ret s2 (some .ret) (.done none) (.inr (.inl ⟨rfl,rfl⟩)) vR xT rfl rfl fun a3 w3 h=>h
       ·cases hx
      ·rename_i i s2 vR;split at hx
       ·rename_i xT;cases hx;exact fin (.exit i) s2 (some (.exit i)) (.done (some i)) (.inr (.inr ⟨i,rfl,rfl⟩)) vR xT rfl rfl fun a3 w3 h=>h
       ·cases hx
      ·cases hx
    ·cases hx
   ·cases hx
  ·cases hx
 ·cases hx
theorem Ps(hF:∀f,F.fn f)(hd:F.depth=none)(sr:F.round=none){C:iM}(hC:Dt F P base C):∀k,np F P base (l_ P) C.gl (cv C k):=by
 intro k;induction k with
 |zero=>intro n g lb own mem w fv args r m' fx bR _ _ _ _ _ h;simp[cv]at h
 |succ k ih=>
  intro n g lb own mem w fv args r m' fx bR hm ho di GL jd hx
  simp only[cv,body]at hx;split at hx
  ·rename_i f first cap
   obtain⟨As,Bs,rfl,XW,XZ⟩:∃As Bs,fx= .func (.func f) As Bs/\PW (VR g lb) first As.toList/\PW (VR g lb) cap Bs.toList:=by
    cases GL with
    |fn _ _ f2 _ _ As Bs hs ht hy hv hw=>
     cases f2<;>first|exact hy.elim|skip
     cases hy;exact⟨As,Bs,rfl,⟨by simpa using hs.symm,fun i hi aj=>by simpa using hv i hi (by simpa using aj)⟩,⟨by simpa using ht.symm,fun i hi aj=>by simpa using hw i hi (by simpa using aj)⟩⟩
   have dj:(do let d<-Deferred.ofValue (.func (.func f) As Bs) bR;invoke d.target d.args:Sem Next).run P w=(callFunc f (As++bR++Bs)).run P w:=by simp only[Deferred.ofValue,Sem.run_bind,Sem.run_pure,Result.andThen_ok,invoke]
   have oM:PW (VR g bS) ((first++args++cap).map (exp mem.ε.length (C.bw f))) (As++bR++Bs).toList:=by have:=(XW.append jd).append XZ;simp only[Array.toList_append];exact this.map _ fun a b h=>(h.exp _ _).sub (g.Ja _)
   unfold AH;rw[dj];split at hx
   ·rename_i p hp;exact hC.jm f p hp n g own mem w _ r m' _ hm ho di oM hx
   ·split at hx
    ·rename_i gf hg;obtain⟨fn,c,bJ,h1,h2,h3,h4,h5⟩:=(hC.fs f gf hg).ex;exact .inl ⟨f,_,HY h1 (by simp[h2]) h3,Xk hF hd sr ih (Pr hC k) (Pq C hC.HM k) h1 h2 h4 h5 hm ho di oM hx⟩
    ·cases hx
  ·rename_i l;obtain⟨b,rfl,hb⟩:∃b,fx= .func (.yield b) #[] #[]/\g.mb l=some b:=by
    cases GL with
    |fn _ _ f2 _ _ As Bs hs ht hy hv hw=>
     cases f2<;>first|exact hy.elim|skip
     have e1:As= #[]:=Ie.1 hs;have e2:Bs= #[]:=Ie.1 ht;subst e1 e2;exact⟨_,rfl,hy⟩
   obtain⟨nD,tmps,fL,yZ,h1,h2⟩:=afr (n:=n) hF hd ih (Pr hC k) (Pq C hC.HM k) hb hm ho di jd hx;refine .inr (.inr ⟨b,nD,tmps,fL,yZ,?_,h2⟩);simp only[Deferred.ofValue,Sem.run_bind,Sem.run_pure,Result.andThen_ok,invoke];have:(#[]++bR:Array Value)=bR:=by simp
   rw[this];exact h1
  ·cases hx
end
end Go.ah
