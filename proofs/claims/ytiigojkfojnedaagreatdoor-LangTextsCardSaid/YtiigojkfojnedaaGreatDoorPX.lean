import Derived.Test.YtiigojkfojnedaaGreatDoorPR
import Derived.RangeFuncLeaves
set_option linter.unusedVariables false
set_option linter.unusedSimpArgs false
open Nat renaming le_refl->bQ,add_comm->y0,strongRecOn->aic,lt_or_ge->bP,add_mul->kV
open List renaming range->rM,getElem?_eq_some_iff->lx,getD_eq_getElem?_getD->kT,getElem?_eq_none->iU,all_eq_true->gz,getElem_map->iG,getElem_mem->cz,mem_cons->dX,mem_iff_getElem->qH,nodup_cons->xd,mem_cons_of_mem->A6,map_cons->ah,map_nil->aw,mem_map->jv,length_take->kD,length_drop->kz,length_map->dq
open Array renaming getElem?_eq_getElem->vo,getElem?_eq_none->aid,getElem?_eq_some_iff->yY,replicate->aie,getElem?_setIfInBounds_ne->Iu,getD_eq_getD_getElem?->rI,size_eq_zero_iff->Iv
open Option renaming getD_some->DC,map_eq_some_iff->bL
open Bool renaming and_eq_true->kj,false_eq_true->hS
open Option.some renaming injEq->bj
open Prod.mk renaming injEq->aL
open Go.World renaming cell?->tm
namespace Go.ab
section
variable{F:Fence}{n:Nat}{P:Program}{bN:Nat->Bool}{N:Nat}{gl:Nat->AV}{base:Nat}{LC:eX}{db:Nat}{aH:cM}
variable{ops:Array Oper}{Q:Exit->Act->World->Prop}
theorem SR.congr{g:Gh}{lb:LB}{own:OW}{s s':St}{a:Act}{w:World}(h:SR gl base N LC db g lb own s a w)(hr:∀r,agree r s s'):SR gl base N LC db g lb own s' a w:= {
 env t:=by have:=hr (.env t);simp only[agree]at this;rw[<-this];exact h.env t
 gl:=h.gl
 size:=h.size
 defers:=h.defers
 mem:=by have:=hr .mem;simp only[agree]at this;rw[<-this];exact h.mem
 loc:=by have:bT s.loc=bT s'.loc:=funext fun d=>hr (.loc d);rw[<-this];exact h.loc
 own:=h.own}
theorem SR.drawn{g:Gh}{lb:LB}{own:OW}{s:St}{a:Act}{w:World}(h:SR gl base N LC db g lb own s a w)(d:Nat):
  SR gl base N LC db g lb own s a {w with drawn:=d}/\ep g own w g own {w with drawn:=d}:=by
 refine⟨⟨h.env,h.gl,h.size,h.defers.bD (g:=g) (g':=g) ⟨g.eP,bQ _,rfl,rfl,rfl,fun _ _ _=>rfl,fun _ _ h=>h,fun _ _ _ _=>rfl⟩,?_,?_,?_⟩,g.eP,bQ _,rfl,rfl,rfl,fun _ _ _=>rfl,fun _ _ h=>h,fun _ _ _ _=>rfl⟩
 ·exact⟨h.mem.ja,h.mem.nF,fun id blk hb=>(h.mem.blk id blk hb).bD g.eP (fun _ _=>⟨rfl,rfl,fun _=>rfl⟩) (fun _ h=>h) (fun h=>h),fun b o x hx=>(pO (w:=w) rfl).trans (h.mem.im b o x hx)⟩
 ·exact⟨fun d v l hd=>by
    obtain⟨b,h1,h2⟩:=h.loc.cells d v l hd
    exact⟨b,h1,h2.bD g.eP (fun _ _ _ h=>h) rfl rfl fun _=>rfl⟩,h.loc.iter,h.loc.vk⟩
 ·exact⟨h.own.ge,h.own.base⟩
theorem aey(hF:∀f,F.fn f)(hd:F.depth=none)(iO:nJ F P base LC gl aH){l:List aR}(hc:tz P bN N ops ops.toList=some l):
  ∀(m k:Nat) (g:Gh) (lb:LB) (own:OW) (s s':St) (a:Act) (w:World),k+m=ops.size->SR gl base N LC db g lb own s a w->eG gl aH (l.drop k) s=some s'→
   (∀g' lb' aK a' w',ep g own w g' aK w'->SR gl base N LC db g' lb' aK s' a' w'->Q .normal a' w')->wpOpsIn F n P ops Q ((rM m).map (·+k)) a w:=by
 intro m;induction m with
 |zero=>
  intro k g lb own s s' a w hk hs hx hQ
  have hlen:=PE hc;rw[List.drop_of_length_le (by simp at hlen;omega)]at hx;cases hx;simpa[wpOpsIn]using hQ _ _ _ _ _ (ep.refl _ _ _) hs
 |succ m ih=>
  intro k g lb own s s' a w hk hs hx hQ
  have dm:k<ops.size:=by omega
  obtain⟨o',nw,ed⟩:=PD hc (i:=k) (o:=ops[k]) (by simp[dm]);have ν:=(lx.1 nw).1;have aak:=(lx.1 nw).2;rw[List.drop_eq_getElem_cons ν,aak]at hx;simp only[eG]at hx;split at hx
  ·rename_i s1 τ;have hr:(rM (m+1)).map (·+k)=k::(rM m).map (·+(k+1)):=by rw[List.range_succ_eq_map];simp[List.map_map,Function.comp_def,Nat.add_assoc,y0 1 k]
   rw[hr,wpOpsIn_cons];refine UM hF hd iO (vo dm) ed hs τ fun g' lb' aK a' w' h1 h2=>?_;exact ih (k+1) g' lb' aK s1 s' a' w' (by omega) h2 hx fun g2 CR wN a2 w2 h3 h4=>hQ _ _ _ _ _ (h1.trans h3) h4
  ·cases hx
def kP(listed:Array Bool)(j:Nat):Prop:=listed.getD j false=true
theorem Tk{listed:Array Bool}{i:Nat}(hi:i<listed.size)(j:Nat):kP (listed.setIfInBounds i true) j↔kP listed j\/j=i:=by
 unfold kP;by_cases h:i=j
 ·subst h;simp[hi]
 ·rw[getD_set_ne false h];exact⟨.inl,fun h'=>h'.resolve_right fun e=>h e.symm⟩
theorem Tw{listed:Array Bool}{i:Nat}(hi:i<listed.size):¬kP listed i↔listed.getD i true=false:=by unfold kP;simp[hi]
theorem WM(he:pQ ops.toList 0=true){listed:Array Bool}(du:∀i o,ops[i]?=some o->kP listed i->∀e∈o.after,Region.binds .any e=true->kP listed e.on)
  (bm:listed.size=ops.size):∀j i,i∈(iD ops).getD j []->kP listed j->kP listed i:=by
 intro j;induction j using aic with
 |_ j ih=>
  intro i hi hj
  have uK:j<ops.size:=by
   rcases bP j ops.size with h|h
   ·exact h
   ·unfold kP at hj;simp[aid (bm▸h)]at hj
  obtain⟨e,h1,h2,h3,h4⟩:=MH he (vo uK) hi;have:=du j _ (vo uK) hj e h1 h2;rcases h4 with rfl|h4
  ·exact this
  ·exact ih e.on h3 i h4 this
theorem ae6(he:pQ ops.toList 0=true):∀j i,i∈(iD ops).getD j []->i<j:=by
 intro j;induction j using aic with
 |_ j ih=>
  intro i hi
  rcases bP j ops.size with uK|uK
  ·obtain⟨e,h1,h2,h3,h4⟩:=MH he (vo uK) hi;rcases h4 with rfl|h4
   ·exact h3
   ·have:=ih e.on h3 i h4;omega
  ·obtain⟨rest,h1,h2⟩:=TZ ops.toList [];have hl:(iD ops).length=ops.size:=by simp[iD,h1,h2]
   rw[kT,iU (by omega)]at hi;simp at hi
theorem aaX{l:List aR}{j:Nat}{o:aR}(h:l[j]?=some o)(hc:o.cls= .mM true):cj l j=true:=by
 simp only[cj,h];obtain⟨dst,op,gd⟩:=o;cases op with
 |alloc g z=>cases g<;>cases dst<;>simp[aR.cls]at hc
 |box g n x=>cases g<;>cases dst<;>simp[aR.cls]at hc
 |qB x=>cases dst<;>simp[aR.cls]at hc
 |st=>rfl
 |_=>simp[aR.cls]at hc
theorem aez{l:List aR}{s:St}{tr:List St}(he:pQ ops.toList 0=true)(Θ:Bw l (iD ops)=true)(Ai:dL gl aH l s=some tr)
  (Rb:(ru l (iD ops) qu yt).all (fun p=>b_ gl l tr p.1 p.2)=true) (YL:(ru l (iD ops) Ap qu).all (fun p=>mF gl l tr p.1 p.2)=true):
  Trace gl aH l (fun i=>tr.getD i s)/\IK gl l (fun i=>tr.getD i s) (fun i j=>i∈(iD ops).getD j []):=by
 obtain⟨h1,h2,h3⟩:=NW Ai;have hT:Trace gl aH l (fun i=>tr.getD i s):=by refine⟨fun i o ho=>?_⟩;obtain⟨a,b,k1,k2,k3⟩:=h3 i o ho;simpa[kT,k1,k2]using k3
 have GS:∀i j,¬i∈(iD ops).getD j []->¬j∈(iD ops).getD i []->cmp (iD ops) i j=false:=by intro i j h h';simp only[cmp,Bool.or_eq_false_iff];exact⟨by simpa using h,by simpa using h'⟩
 refine⟨hT,⟨fun i j h=>ae6 he j i h,?_,?_,?_,?_⟩⟩
 ·intro i j oi oj hi hj aj n1 n2;have ae:=(lx.1 hi).1;have dD:=(lx.1 hj).1;simp only[Bw,gz,List.mem_range]at Θ;have:=Θ j dD i ae;simpa[aj,GS i j n1 n2,hi,hj]using this
 ·intro i j oi oj ag m a hi hj Ψ du n1 n2 hw id off hp;have cE:=Mn (p:=qu) (q:=yt) hi hj (by rw[Bq Ψ];rfl) (by rcases du with du|du<;>(rw[du];rfl)) (GS i j n1 n2);have jO:=gz.1 Rb _ cE;obtain⟨si,_,k1,_,_⟩:=h3 i oi hi;obtain⟨sj,Dj,k3,k4,_⟩:=h3 j oj hj;simp only[kT,k1,k3,k4,DC]at hw hp⊢;simp only[b_,hi,k1,k3,k4]at jO;split at jO
  ·rename_i LD;exact absurd LD hw
  ·rename_i Vu m' a' Cu _;rw[Ψ]at Cu;cases Cu;rw[hp]at jO;simp only[kj]at jO;exact⟨Et jO.1,Et jO.2⟩
  ·cases jO
 ·intro i j oi oj ag m a hi hj Ψ du n1 n2 hw d v off hp;have cE:=Mn (p:=qu) (q:=yt) hi hj (by rw[Bq Ψ];rfl) (by rw[du];rfl) (GS i j n1 n2);have jO:=gz.1 Rb _ cE;obtain⟨si,_,k1,_,_⟩:=h3 i oi hi;obtain⟨sj,Dj,k3,k4,_⟩:=h3 j oj hj;simp only[kT,k1,k3,k4,DC]at hw hp⊢;simp only[b_,hi,k1,k3,k4]at jO;split at jO
  ·rename_i LD;exact absurd LD hw
  ·rename_i Vu m' a' Cu _;rw[Ψ]at Cu;cases Cu;rw[hp]at jO;simp only[aaX hj du,Bool.not_true,Bool.false_or,kj]at jO;exact⟨Et jO.1,Et jO.2⟩
  ·cases jO
 ·intro i j oi oj ag m a d hi hj Ψ du n1 n2 v off hp;have cE:=Mn (p:=Ap) (q:=qu) hi hj (by rw[du];rfl) (by rw[Bq Ψ];rfl) (GS i j n1 n2);have jO:=gz.1 YL _ cE;obtain⟨sj,Dj,k3,k4,_⟩:=h3 j oj hj;simp only[kT,k3,DC]at hp;simp only[mF,hi,hj,k3,Ψ,hp,adN du]at jO;simp at jO
theorem VE(hF:∀f,F.fn f)(hd:F.depth=none)(iO:nJ F P base LC gl aH){l:List aR}(hc:tz P bN N ops ops.toList=some l){T:Nat->St}
  (he:pQ ops.toList 0=true) (hT:Trace gl aH l T) (hO:IK gl l T (fun i j=>i∈(iD ops).getD j [])):
  ∀(fuel:Nat) (listed:Array Bool) (g:Gh) (lb:LB) (own:OW) (s:St) (a:Act) (w:World),listed.size=ops.size->listed.countP (fun b=>!b)<=fuel→
   (∀i o,ops[i]?=some o->kP listed i->∀e∈o.after,Region.binds .any e=true->kP listed e.on)->Inv l T (kP listed) s->SR gl base N LC db g lb own s a w→
   (∀g' lb' aK a' w',ep g own w g' aK w'->SR gl base N LC db g' lb' aK (T l.length) a' w'->Q .normal a' w')->wpAnyIn F n P .any ops Q fuel listed a w:=by
 have hlen:=PE hc;simp only[Array.length_toList]at hlen;have p0:∀(listed:Array Bool) (g:Gh) (lb:LB) (own:OW) (s:St) (a:Act) (w:World),listed.size=ops.size->Inv l T (kP listed) s->SR gl base N LC db g lb own s a w→
   (∀g' lb' aK a' w',ep g own w g' aK w'->SR gl base N LC db g' lb' aK (T l.length) a' w'->Q .normal a' w')->Region.ready .any ops listed=[]->Q .normal a w:=by
  intro listed g lb own s a w bm hI hs hQ hr;have pg:∀i,i<ops.size->kP listed i:=by
   intro i;induction i using aic with
   |_ i ih=>
    intro hi
    refine Classical.byContradiction fun hn=>?_;have:i∈Region.ready .any ops listed:=by refine mem_ready.2 ⟨(Tw (by omega)).1 hn,_,vo hi,fun e hm hb=>?_⟩;have:=Xp he (i:=i) (o:=ops[i]) (by simp[hi]) e hm hb;exact ih e.on (by omega) (by omega)
    rw[hr]at this;cases this
  refine hQ _ _ _ _ _ (ep.refl _ _ _) (hs.congr fun r=>hI r l.length (bQ _) (fun j o hj _ _=>pg j (by omega)) fun j o hj ho _ _=>?_);have:=(lx.1 ho).1;omega
 intro fuel;induction fuel with
 |zero=>
  intro listed g lb own s a w bm lI du hI hs hQ
  have hr:Region.ready .any ops listed=[]:=by
   refine List.eq_nil_iff_forall_not_mem.2 fun i hi=>?_;obtain⟨h1,o,h2,_⟩:=mem_ready.1 hi;have ν:i<listed.size:=by rw[bm];exact(yY.1 h2).1
   have h0:listed.countP (fun b=>!b)=0:=by omega
   rw[Array.countP_eq_zero]at h0;have:=h0 listed[i] (Array.getElem_mem ν);simp[ν]at h1;simp[h1]at this
  exact⟨hr,p0 listed g lb own s a w bm hI hs hQ hr⟩
 |succ fuel ih=>
  intro listed g lb own s a w bm lI du hI hs hQ
  refine⟨p0 listed g lb own s a w bm hI hs hQ,fun i hi=>?_⟩;obtain⟨h1,o,h2,h3⟩:=mem_ready.1 hi;have ν:i<listed.size:=by rw[bm];exact(yY.1 h2).1
  have yj:¬kP listed i:=(Tw ν).2 h1;obtain⟨o',nw,ed⟩:=PD hc (i:=i) (o:=o) (by simpa using h2);have Rc:=WM he du bm;have G8:∀j,j∈(iD ops).getD i []->kP listed j:=by
   intro j hj;obtain⟨e,k1,k2,k3,k4⟩:=MH he h2 hj;have:=h3 e k1 k2;rcases k4 with rfl|k4
   ·exact this
   ·exact Rc _ _ k4 this
  obtain⟨s1,k1,k2⟩:=aeA hT hO hI (fun i j h h'=>Rc j i h h') nw yj G8;refine UM hF hd iO h2 ed hs k1 fun g' lb' aK a' w' h4 h5=>?_;refine ih _ g' lb' aK s1 a' w' (by simpa using bm) ?_ ?_ ?_ h5 fun g2 CR wN a2 w2 h6 h7=>hQ _ _ _ _ _ (h4.trans h6) h7
  ·have hx:listed[i]=false:=by simpa[ν]using h1
   rw[Array.setIfInBounds_def,dif_pos ν,Array.countP_set];simp[hx];omega
  ·intro j oj hj hl e hm hb;rw[Tk ν]at hl⊢;rcases hl with hl|rfl
   ·exact .inl (du j oj hj hl e hm hb)
   ·rw[h2]at hj;cases hj;exact .inl (h3 e hm hb)
  ·have:kP (listed.setIfInBounds i true)=fun j=>kP listed j\/j=i:=funext fun j=>propext (Tk ν j);rw[this];exact k2
end
section
variable(P:Program)(bN:Nat->Bool)(N:Nat)
def afd(l:List aR):List Nat:=l.filterMap fun o=>match o.op with
 | .alloc true _| .box true _ _=>o.dst
 |_=>none
def I_(ops:Array Oper)(draw:Bool):AC:=match tz P bN N ops ops.toList with
 |some l=>if draw then(if P.follows .mixedOrders&&pQ ops.toList 0&&Bw l (iD ops)then .draw l (ru l (iD ops) qu yt) (ru l (iD ops) Ap qu)else
   match tz P (fun _=>false) N ops ops.toList with
   |some l'=>if P.follows .mixedOrders&&pQ ops.toList 0&&Bw l' (iD ops)then .seq (.draw l' (ru l' (iD ops) qu yt) (ru l' (iD ops) Ap qu)) (.C7 (afd l))else .bad
   |none=> .bad)else .ops l
 |none=> .bad
def kF:Bool->Code->AC
 |_,.skip=> .skip
 |_,.region _ ops draw=>I_ P bN N ops draw
 |rf,.seq a b=> .seq (kF rf a) (kF rf b)
 |rf,.cond x a b=>match cG x with
  |some x=> .cond x (kF rf a) (kF rf b)
  |none=> .bad
 |rf,.block id a=> .block id (kF rf a)
 |rf,.loop a=> .loop (kF rf a)
 |_,.exit id=> .exit id
 |_,.ret=> .ret
 |_,.label _=> .skip
 |rf,.scope a=>kF rf a
 |rf,.rangeFunc f ps fH body=>match cG f with
  |some f=>if rf&&ps.toList.all (fun p=>decide (p<N))then .vd f ps.toList (kF false fH) (kF false body)else .bad
  |none=> .bad
 |_,_=> .bad
end
def Ex.zs:Ex->Exit
 | .normal=> .normal
 | .exit i=> .exit i
 | .ret=> .ret
section
variable{F:Fence}{n:Nat}{P:Program}{bN:Nat->Bool}{N:Nat}{gl:Nat->AV}{base:Nat}{LC:eX}{db:Nat}{aH:cM}
theorem afc{d:Nat}{g:Gh}{lb:LB}{own:OW}{s s':St}{a:Act}{w:World}(hs:SR gl base N LC db g lb own s a w)(h:C8 d s=some s'):
  ∃g' aK,ep g own w g' aK w/\SR gl base N LC db g' lb aK s' a w:=by
 unfold C8 at h;split at h
 ·rename_i d' v hd;split at h
  ·rename_i v' l hl;split at h
   ·rename_i Zf;obtain⟨rfl,rfl⟩:=Zf;cases h;obtain⟨b,hb,hc⟩:=hs.loc.cells _ _ _ hl;have Cq:g.mb s.mem.ε.length=none:=by
     cases hx:g.mb s.mem.ε.length with
     |none=>rfl
     |some y=>have:=hs.mem.ja _ _ hx;omega
    let mT:Nat->Option Nat:=fun id=>if id=s.mem.ε.length then some b else g.mb id;let aK:OW:=fun b'=>if b'=b then some (.m s.mem.ε.length)else own b';have ef:g.sub {g with mb:=mT}:=⟨fun _ _ _ h=>h,fun id c hc=>by simp only[mT];rw[if_neg (fun he=>by rw[he,Cq]at hc;cases hc)];exact hc,fun _ _ _ h=>h⟩;have τ:ep g own w {g with mb:=mT} aK w:=⟨ef,bQ _,rfl,rfl,rfl,fun _ _ _=>rfl,fun b' _ aX=>by simp only[aK];rw[if_neg (fun he=>by rw[he,hc.1]at aX;cases aX)];exact aX,fun _ _ _ _=>rfl⟩;have lJ:bc g aK LC s.mem w:=hs.mem.bD g.eP (fun _ h=>h) (fun _ _ h=>h) (fun id b' aX=>⟨by simp only[aK];rw[if_neg (fun he=>by rw[he,hc.1]at aX;cases aX)],rfl,fun _=>rfl⟩) hs.mem.im;refine⟨{g with mb:=mT},aK,τ,⟨fun t=>?_,hs.gl.mono ef,hs.size,hs.defers.bD τ,?_,?_,⟨fun b' o aX=>?_,hs.own.base⟩⟩⟩
    ·have ht:=(hs.env t).sub ef;simp only[gN];split
     ·rename_i Ze;subst Ze;rw[hd]at ht;generalize a.tmps.getD _ undef=x at ht;cases ht with
      |Ω _ _ _ _ b' aX=>
       rw[hb]at aX
       cases aX;exact .μ _ _ _ _ (by simp[mT])
     ·exact ht
    ·refine hs.mem.push lJ _ mT (fun id c hc=>?_) (fun id hid=>if_neg (by omega)) ?_
     ·simp only[mT]at hc;split at hc
      ·exact .inr (by assumption)
      ·exact .inl hc
     ·obtain⟨_,h2,ar,e,h3,h4,h5,h6⟩:=hc;refine⟨b,by simp[mT],by simp[aK],h2,ar,e,h3,by simpa using h4,fun i hi ae=>?_,h6⟩;simp only[iG];exact(HN hs.mem (h5 i (by simpa using hi) ae)).sub ef
    ·refine⟨fun d2 v2 l2 sw=>?_,fun d2 v2 s2 p2 sw=>?_,fun d2 v2 b2 dt=>?_⟩
     ·simp only[gF]at sw;split at sw
      ·cases sw
      ·rename_i aj;obtain⟨b2,k1,k2⟩:=hs.loc.cells _ _ _ sw;refine⟨b2,k1,k2.bD ef (fun _ _ _ h=>h) ?_ rfl fun _=>rfl⟩;simp only[aK];rw[if_neg (fun he=>by
        have:=k2.1
        rw[he,hc.1]at this;simp only[bj,Own.l.injEq]at this;exact aj this)]
     ·simp only[gF]at sw;split at sw
      ·cases sw
      ·rename_i aj;obtain⟨b2,k1,k2,k3⟩:=hs.loc.iter _ _ _ _ sw;refine⟨b2,k1,?_,k3⟩;simp only[aK];rw[if_neg (fun he=>by
        rw[he,hc.1]at k2
        simp only[bj,Own.l.injEq]at k2;exact aj k2)]
       exact k2
     ·obtain⟨v3,blk,k1,k2⟩:=hs.loc.vk _ _ _ dt;simp only[gF];split
      ·rename_i gn;subst gn;rw[hl]at k1;cases k1;exact⟨_,_,rfl,k2⟩
      ·exact⟨v3,blk,k1,k2⟩
    ·simp only[aK]at aX;split at aX
     ·rename_i he;subst he;exact hs.own.ge _ _ hc.1
     ·exact hs.own.ge _ _ aX
   ·cases h
  ·cases h
 ·cases h
theorem Ub:∀{l:List Nat} {g:Gh} {own:OW} {lb:LB} {s s':St} {a:Act} {w:World},SR gl base N LC db g lb own s a w->AE l s=some s'→
  ∃g' aK,ep g own w g' aK w/\SR gl base N LC db g' lb aK s' a w
 |[],g,own,lb,s,s',a,w,hs,h=>by cases h;exact⟨g,own,.refl _ _ _,hs⟩
 |d::l,g,own,lb,s,s',a,w,hs,h=>by
  simp only[AE]at h;split at h
  ·rename_i h1;obtain⟨g1,tS,k1,k2⟩:=afc hs h1;obtain⟨g2,wN,k3,k4⟩:=Ub k2 h;exact⟨g2,wN,k1.trans k3,k4⟩
  ·cases h
theorem P5(hF:∀f,F.fn f)(hd:F.depth=none)(iO:nJ F P base LC gl aH){id:Nat}{ops:Array Oper}{l:List aR}(hc:tz P bN N ops ops.toList=some l)
  (Θ:(P.follows .mixedOrders&&pQ ops.toList 0&&Bw l (iD ops))=true) {g:Gh} {lb:LB} {own:OW} {s s1:St} {a:Act} {w:World}
  (hs:SR gl base N LC db g lb own s a w) (hx:er gl aH l (ru l (iD ops) qu yt) (ru l (iD ops) Ap qu) s=some s1) {Q:Exit->Act->World->Prop}
  (hQ:∀g' lb' aK a' w',ep g own w g' aK w'->SR gl base N LC db g' lb' aK s1 a' w'->Q .normal a' w'):(Code.region id ops true).wpIn F n P Q a w:=by
 simp only[kj]at Θ;unfold er at hx;split at hx
 ·rename_i tr Ai;split at hx
  ·rename_i jd;simp only[kj]at jd;obtain⟨hT,hO⟩:=aez Θ.1.2 Θ.2 Ai jd.1 jd.2;obtain⟨k1,k2,k3⟩:=NW Ai;have vS:tr.getD 0 s=s:=by simp[kT,k2]
   have YH:tr.getD l.length s=s1:=by rw[List.getLast?_eq_getElem?,k1]at hx;simp at hx;simp[kT,hx]
   obtain⟨d1,d2⟩:=hs.drawn (w.drawn+1);refine wpIn_region_any Θ.1.1 (VE hF hd iO hc Θ.1.2 hT hO ops.size _ g lb own s a _ (by simp) ?_ ?_ ?_ d1 ?_)
   ·exact Nat.le_trans Array.countP_le_size (by simp)
   ·intro i o ho hl;unfold kP at hl;rcases bP i ops.size with h|h<;>simp[h]at hl
   ·intro r k hk h1 h2;have:∀j,¬kP (aie ops.size false) j:=fun j hl=>by unfold kP at hl;rcases bP j ops.size with h|h<;>simp[h]at hl
    have Ha:=hT.same (r:=r) (i:=0) (Nat.zero_le k) hk fun j o _ hj ho hw=>this j (h1 j o hj ho hw);simp only[vS]at Ha;exact NL Ha
   ·intro g' lb' aK a' w' h1 h2;rw[YH]at h2;exact hQ _ _ _ _ _ (d2.trans h1) h2
  ·cases hx
 ·cases hx
theorem afr(hF:∀f,F.fn f)(hd:F.depth=none)(iO:nJ F P base LC gl aH){id:Nat}{ops:Array Oper}{draw:Bool}{lp:oX}{g:Gh}{lb:LB}{own:OW}{s s':St}{ex:Ex}{a:Act}{w:World}
  (hs:SR gl base N LC db g lb own s a w) (hx:exec gl aH lp (I_ P bN N ops draw) s=some (ex,s')) {Q:Exit->Act->World->Prop}
  (hQ:∀g' lb' aK a' w',ep g own w g' aK w'->SR gl base N LC db g' lb' aK s' a' w'->Q ex.zs a' w'):(Code.region id ops draw).wpIn F n P Q a w:=by
 unfold I_ at hx;split at hx
 ·rename_i l hc;split at hx
  ·rename_i uH;subst uH;split at hx
   ·rename_i Θ;simp only[exec,bL,aL]at hx;obtain⟨s1,hx,rfl,rfl⟩:=hx;exact P5 hF hd iO hc Θ hs hx hQ
   ·split at hx
    ·rename_i l' jb;split at hx
     ·rename_i Θ;simp only[exec]at hx;cases kM:er gl aH l' (ru l' (iD ops) qu yt) (ru l' (iD ops) Ap qu) s with
      |none=>rw[kM]at hx;cases hx
      |some s1=>
       rw[kM]at hx
       simp only[Option.map_some,bL,aL]at hx;obtain⟨s2,hx,rfl,rfl⟩:=hx;refine P5 hF hd iO jb Θ hs kM fun g' lb' aK a' w' h1 h2=>?_;obtain⟨g2,wN,k1,k2⟩:=Ub h2 hx;exact hQ _ _ _ _ _ (h1.trans k1) k2
     ·cases hx
    ·cases hx
  ·rename_i uH;obtain rfl:draw=false:=by simpa using uH
   simp only[exec,bL,aL]at hx;obtain⟨s1,hx,rfl,rfl⟩:=hx;refine wpIn_region ?_;have:=aey (n:=n) (Q:=Q) hF hd iO hc ops.size 0 g lb own s s1 a w (by simp) hs (by simpa using hx) hQ;simpa using this
 ·cases hx
end
theorem Gh.W2(g:Gh)(n:Nat):(g.cut n).cut n=g.cut n:=by
 unfold Gh.cut;congr 1
 ·funext id;by_cases h:id<n<;>simp[h]
 ·funext t m;by_cases h:t<n<;>simp[h]
theorem Gh.Jo(g:Gh)(n:Nat):(g.cut n).sub g:=
 ⟨fun _ _ _ h=>h,fun id b h=>(by simp only[Gh.cut]at h;split at h<;>first|exact h|cases h),fun t m x h=>(by simp only[Gh.cut]at h;split at h<;>first|exact h|cases h)⟩
theorem WH{g:Gh}{n b o cap id k:Nat}{c:Γ}(h:nN g n b o cap c)(hl:c.lo id=true)(hk:id<k):nN (g.cut k) n b o cap c:=by
 cases c with
 |any=>trivial
 |nil=>exact h
 |full=>exact h
 |own t=>
  simp only[Γ.lo,decide_eq_true_eq]at hl
  exact⟨h.1,by simp only[Gh.cut];rw[if_pos (by omega)];exact h.2⟩
theorem Mi{id:Nat}{v:AV}(h:lo id v=true):∀x∈v.cells,lo id x=true:=by
 intro x hx;cases v with
 |agg l=>simp only[lo,mS,gz]at h;exact h x hx
 |aO l=>cases hx
 |undef=>cases hx
 |_=>simp only[AV.cells,List.mem_singleton]at hx;subst hx;exact h
theorem VR.W3{g:Gh}{lb:LB}{v:AV}{x:Value}(h:VR g lb v x){id n:Nat}(hn:id<n)(hl:lo id v=true):VR (g.cut n) lb v x:=by
 induction h with
 |undef=>exact .undef _
 |dd _ x h=>exact .dd _ x h
 |int _ k n=>exact .int _ k n
 |bool _ b=>exact .bool _ b
 |str _ b s h=>exact .str _ b s h
 |iR=>exact .iR _
 |Ω _ d v off b h=>exact .Ω _ d v off b h
 |μ _ nC off b h=>
  simp only[lo,decide_eq_true_eq]at hl
  exact .μ _ nC off b (by simp only[Gh.cut];rw[if_pos (by omega)];exact h)
 |ref _ l b o xs cJ _ ih=>
  simp only[lo,mS,gz]at hl
  exact .ref _ l b o xs cJ fun i hi=>ih i hi (hl _ (cz hi))
 |iQ=>exact .iQ _
 |g_ _ c a cap hc=>exact .g_ _ c a cap hc
 |sl _ kd nC off m cap b hc h=>
  simp only[lo,decide_eq_true_eq]at hl
  exact .sl _ kd nC off m cap b hc (by simp only[Gh.cut];rw[if_pos (by omega)];exact h)
 |list _ c l b o sz m cap xs hm dp hc bm cJ _ ih=>
  simp only[lo,mS,kj,gz]at hl
  exact .list _ c l b o sz m cap xs hm dp (WH hc hl.1 hn) bm cJ fun i hi j hj=>ih i hi j hj (Mi (hl.2 _ (cz hi)) _ (cz hj))
 |agg _ l a hs h1 _ ih=>
  simp only[lo,mS,gz]at hl
  exact .agg _ l a hs h1 fun i hi ae=>ih i hi ae (hl _ (cz hi))
 |aO _ l a hs _ ih=>
  simp only[lo,mS,gz]at hl
  exact .aO _ l a hs fun i hi ae=>ih i hi ae (hl _ (cz hi))
 |fn _ f f' l m a b hs ht hy _ _ kN gq=>
  simp only[lo,mS,kj,gz]at hl
  refine .fn _ f f' l m a b hs ht ?_ (fun i hi ae=>kN i hi ae (hl.1.2 _ (cz hi))) (fun i hi ae=>gq i hi ae (hl.2 _ (cz hi)));cases f<;>cases f'<;>first|exact hy|exact hy.elim|skip
  rename_i i b;have:=hl.1.1;simp only[Fn.below,decide_eq_true_eq]at this;simp only[rJ,Gh.cut]at hy⊢;rw[if_pos (by omega)];exact hy
 |eU=>exact .eU _
 |iface _ t v x _ ih=>exact .iface _ t v x (ih hl)
 |ga=>exact .ga _
 |map _ nC b h=>
  simp only[lo,decide_eq_true_eq]at hl
  exact .map _ nC b (by simp only[Gh.cut];rw[if_pos (by omega)];exact h)
 |fP=>exact .fP _
theorem VR.PT{g:Gh}{lb:LB}{v:AV}{x:Value}(h:VR g lb v x){g0:Gh}{n:Nat}(hd:∀id b,g0.mb id=some b->id<n)(hr:∀t m y,g0.rows t m=some y->t<n):
  ∀{lb0:LB} {x0:Value},VR g0 lb0 v x0->VR (g.cut n) lb v x:=by
 induction h with
 |undef=>intro _ _ _;exact .undef _
 |dd _ x h=>intro _ _ _;exact .dd _ x h
 |int _ k n=>intro _ _ _;exact .int _ k n
 |bool _ b=>intro _ _ _;exact .bool _ b
 |str _ b s h=>intro _ _ _;exact .str _ b s h
 |iR=>intro _ _ _;exact .iR _
 |Ω _ d v off b h=>intro _ _ _;exact .Ω _ d v off b h
 |μ _ nC off b h=>
  intro _ _ h0
  cases h0 with
  |μ _ _ _ b0 eS=>exact .μ _ nC off b (by simp only[Gh.cut];rw[if_pos (hd _ _ eS)];exact h)
 |ref _ l b o xs cJ _ ih=>
  intro _ _ h0
  cases h0 with
  |ref _ _ b0 o0 xs0 KI uV=>exact .ref _ l b o xs cJ fun i hi=>ih i hi (uV i hi)
 |iQ=>intro _ _ _;exact .iQ _
 |g_ _ c a cap hc=>intro _ _ _;exact .g_ _ c a cap hc
 |sl _ kd nC off m cap b hc h=>
  intro _ _ h0
  cases h0 with
  |sl _ _ _ _ _ _ b0 vV eS=>exact .sl _ kd nC off m cap b hc (by simp only[Gh.cut];rw[if_pos (hd _ _ eS)];exact h)
 |list _ c l b o sz m cap xs hm dp hc bm cJ _ ih=>
  intro _ _ h0
  cases h0 with
  |iQ=>exact hc.elim
  |g_ _ c0 a0 WG vV=>
   refine .list _ c [] b o sz m cap xs hm dp ?_ bm cJ fun i hi=>absurd hi (Nat.not_lt_zero _)
   rcases vV with rfl|⟨rfl,_⟩
   ·trivial
   ·exact hc
  |list _ _ _ b0 o0 sz0 m0 WG xs0 RB ag5 vV ahj KI uV=>
   refine .list _ c l b o sz m cap xs hm dp ?_ bm cJ fun i hi j hj=>ih i hi j hj (uV i hi j hj)
   cases c with
   |any=>trivial
   |nil=>exact hc
   |full=>exact hc
   |own t=>exact⟨hc.1,by simp only[Gh.cut];rw[if_pos (hr _ _ _ vV.2)];exact hc.2⟩
 |agg _ l a hs h1 _ ih=>
  intro _ _ h0
  cases h0 with
  |agg _ _ a0 lq aG uV=>exact .agg _ l a hs h1 fun i hi ae=>ih i hi ae (uV i hi (by omega))
 |aO _ l a hs _ ih=>
  intro _ _ h0
  cases h0 with
  |aO _ _ a0 lq uV=>exact .aO _ l a hs fun i hi ae=>ih i hi ae (uV i hi (by omega))
 |fn _ f f' l m a b hs ht hy _ _ kN gq=>
  intro _ _ h0
  cases h0 with
  |fn _ _ f0 _ _ a0 b0 lq ht0 LJ uV iA=>
   refine .fn _ f f' l m a b hs ht ?_ (fun i hi ae=>kN i hi ae (uV i hi (by omega))) (fun i hi ae=>gq i hi ae (iA i hi (by omega)))
   cases f<;>cases f'<;>first|exact hy|exact hy.elim|skip
   cases f0<;>first|exact LJ.elim|skip
   simp only[rJ,Gh.cut]at hy LJ⊢;rw[if_pos (hd _ _ LJ)];exact hy
 |eU=>intro _ _ _;exact .eU _
 |iface _ t v x _ ih=>
  intro _ _ h0
  cases h0 with
  |iface _ _ _ x0 h0=>exact .iface _ t v x (ih h0)
 |ga=>intro _ _ _;exact .ga _
 |map _ nC b h=>
  intro _ _ h0
  cases h0 with
  |map _ _ b0 eS=>exact .map _ nC b (by simp only[Gh.cut];rw[if_pos (hd _ _ eS)];exact h)
 |fP=>intro _ _ _;exact .fP _
def Dg(n:Nat):Nat->θ->θ
 |0,b=>b
 |k+1,b=>Dg n k (b.AH n)
theorem af_(n:Nat):∀(t:List Nat) (bs:List θ) (id:Nat) (blk:θ),(lT n t bs)[id]?=some blk->∃b0 k,bs[id]?=some b0/\blk=Dg n k b0/\(k=0->id∉t):=by
 intro t;induction t with
 |nil=>intro bs id blk h;exact⟨blk,0,h,rfl,fun _ h=>by cases h⟩
 |cons i t ih=>
  intro bs id blk h
  simp only[lT]at h;obtain⟨b0,k,h1,h2,h3⟩:=ih _ id blk h;split at h1
  ·rename_i b hb;rw[List.getElem?_set]at h1;split at h1
   ·rename_i hi;subst hi;split at h1
    ·cases h1;exact⟨b,k+1,hb,h2,fun h=>by omega⟩
    ·cases h1
   ·rename_i hi;exact⟨b0,k,h1,h2,fun hk hm=>by rcases dX.1 hm with rfl|hm;exact hi rfl;exact h3 hk hm⟩
  ·rename_i hb;refine⟨b0,k,h1,h2,fun hk hm=>?_⟩;rcases dX.1 hm with rfl|hm
   ·rw[hb]at h1;cases h1
   ·exact h3 hk hm
theorem Dh{n k:Nat}{b:θ}(h:∀l,b≠ .cells l):Dg n k b=b:=by
 induction k with
 |zero=>rfl
 |succ k ih=>
  have:b.AH n=b:=by cases b<;>first|rfl|exact absurd rfl (h _)
  rw[Dg,this,ih]
theorem af9{g:Gh}{n:Nat}:∀(k:Nat) (l:List AV),∃l',Dg n (k+1) (.cells l)= .cells l'/\l'.length=l.length∧
  ∀i (h:i<l.length) (h':i<l'.length) x,VR g cd l[i] x->VR (g.cut n) cd l'[i] x:=by
 intro k;induction k generalizing g with
 |zero=>
  intro l
  refine⟨_,rfl,by simp,fun i h h' x hx=>?_⟩;simp only[iG];exact hx.exp n true
 |succ k ih=>
  intro l
  obtain⟨l',h1,h2,h3⟩:=ih (g:=g.cut n) (l.map (exp n true));refine⟨l',h1,by simpa using h2,fun i h h' x hx=>?_⟩;have:=h3 i (by simpa using h) h' x (by simp only[iG];exact hx.exp n true);rwa[Gh.W2]at this
def pF(n:Nat)(own:OW):OW:=fun b=>match own b with
 |some (.m id)=>if id<n then some (.m id)else none
 |_=>none
theorem yJ{n:Nat}{own:OW}{b id:Nat}(h:own b=some (.m id))(hid:id<n):pF n own b=some (.m id):=by simp[pF,h,hid]
theorem Az{n:Nat}{own:OW}{b:Nat}{o:Own}(h:pF n own b=some o):own b=some o/\∃id,o= .m id:=by
 unfold pF at h;split at h
 ·rename_i id he;split at h
  ·cases h;exact⟨he,id,rfl⟩
  ·cases h
 ·cases h
theorem TK{n:Nat}{own:OW}{b:Nat}(h:own b=none):pF n own b=none:=by simp[pF,h]
theorem N1{g0:Gh}{HV:OW}{LC:eX}{m0:Mem}{w0:World}(h0:bc g0 HV LC m0 w0){g:Gh}{own:OW}{m:Mem}{w:World}(h:bc g own LC m w){extra:List θ}
  (hk:KM {ε:=m0.ε++extra,η:=[]} m):bc (g.cut m0.ε.length) (pF m0.ε.length own) LC (m0.back m) w:=by
 have hlen:m0.ε.length<=m.ε.length:=by have:=hk.len;simp at this;omega
 have eT:(m0.back m).ε.length=m0.ε.length:=IV hlen;refine⟨fun id b hb=>?_,fun t k x hx=>?_,fun id blk hb=>?_,h.im⟩
 ·rw[eT];simp only[Gh.cut]at hb;split at hb<;>first|assumption|cases hb
 ·rw[eT];simp only[Gh.cut]at hx;split at hx<;>first|assumption|cases hx
 ·have hid:id<m0.ε.length:=by have:=(lx.1 hb).1;omega
  simp only[Mem.back]at hb;obtain⟨b0,k,h1,h2,h3⟩:=af_ _ _ _ _ _ hb;rw[List.getElem?_take_of_lt hid]at h1;have hB:=h.blk id b0 h1;have jf:∀b,g.mb id=some b->(g.cut m0.ε.length).mb id=some b:=fun b hb=>by simp only[Gh.cut];rw[if_pos hid];exact hb
  cases b0 with
  |cells l=>
   obtain⟨b,k1,k2,k3,a,e,k4,k5,k6,k7⟩:=hB
   cases k with
   |succ k=>
    obtain⟨l',q1,q2,q3⟩:=af9 (g:=g) (n:=m0.ε.length) k l
    rw[h2,q1];exact⟨b,jf b k1,yJ k2 hid,k3,a,e,k4,by omega,fun i hi ae=>q3 i (by omega) hi _ (k6 i (by omega) ae),k7⟩
   |zero=>
    rw[h2]
    refine⟨b,jf b k1,yJ k2 hid,k3,a,e,k4,k5,fun i hi ae=>?_,k7⟩;have hv:=k6 i hi ae;rcases hk.cells id l h1 (by simp;omega) (h3 rfl) l[i] (cz hi)with⟨Tg,q1,q2⟩|q1
    ·rw[List.getElem?_append_left hid]at q1;obtain⟨b',r1,r2,r3,a',e',r4,r5,r6,r7⟩:=h0.blk id _ q1;obtain⟨j,hj,ZK⟩:=qH.1 q2;have hx:=r6 j hj (by omega);rw[ZK]at hx;exact hv.PT h0.ja h0.nF hx
    ·exact hv.W3 hid q1
  |iter s pos=>exact hB.elim
  |dead=>
   rw[h2,Dh (by simp)]
   trivial
  |nL T e s=>
   rw[h2,Dh (by simp)]
   obtain⟨b,k1,k2,k3,p,v,k4,k5,k6,k7⟩:=hB;refine⟨b,jf b k1,yJ k2 hid,k3,p,v,k4,k5,k6,?_⟩;rcases k7 with k7|⟨r,cap,cur,q1,q2,q3⟩
   ·exact .inl k7
   ·exact .inr ⟨r,cap,cur,q1,yJ q2 hid,q3⟩
  |map es=>
   rw[h2,Dh (by simp)]
   obtain⟨b,k1,k2,k3,a,c,k4,k5,k6,k7⟩:=hB;refine⟨b,jf b k1,yJ k2 hid,k3,a,c,k4,k5,fun i hi ae=>?_,k7⟩;obtain⟨q1,q2⟩:=k6 i hi ae;obtain⟨p1,p2⟩:=k7 _ (cz hi);have r1:=VR.exp (lb':=cd) m0.ε.length true q1;have r2:=VR.exp (lb':=cd) m0.ε.length true q2;rw[BL _ _ _ p1]at r1;rw[BL _ _ _ p2]at r2;exact⟨r1,r2⟩
  |front c sz e=>
   rw[h2,Dh (by simp)]
   obtain⟨k0,b,cap,k1,k2,k3,k4,k5,k6,k7⟩:=hB;refine⟨k0,b,cap,by simp only[Gh.cut];rw[if_pos hid];exact k1,k2,yJ k3 hid,k4,k5,fun m' x hx=>k6 m' x ?_,by simp only[Gh.cut];rw[if_pos hid];exact k7⟩;simp only[Gh.cut]at hx;rw[if_pos hid]at hx;exact hx
  |loop env ps fH body st=>
   rw[h2,Dh (by simp)]
   obtain⟨b,k1,k2,k3,L,N,k4,k5,k6,k7,k8,k9,k10,CM,pB⟩:=hB;exact⟨b,jf b k1,yJ k2 hid,k3,L,N,k4,fun t=>by
    obtain⟨g0,x0,q1,q2,q3⟩:=pB t
    exact(k5 t).PT (fun i b hb=>Nat.lt_trans (q1 i b hb) hid) (fun i m y hy=>Nat.lt_trans (q2 i m y hy) hid) q3,k6,k7,k8,k9,k10,CM,pB⟩
def AY(P:Program)(aH:cM):Prop:=
 ∀f first cap l mem r,aH (.fn (.func f) first cap) [.fn (.yield l) [] []] mem=some r->∃fn,P.funcs[f]?=some fn/\fn.body.isNone=false/\(fn.name== "runtime.NumGoroutine")=false
theorem TM{base:Nat}{own:OW}{w:World}(ho:bZ base own w):gr own w.heap.size none=own:=by
 funext b;simp only[gr];split
 ·rename_i h;subst h;cases hx:own w.heap.size with
  |none=>rfl
  |some o=>exact absurd rfl (yK ho hx)
 ·rfl
theorem QJ(l:List AV)(t:Nat):bq (l.map ρ) t=ρ (bq l t):=by
 induction l generalizing t with
 |nil=>rfl
 |cons a l ih=>cases t with
  |zero=>rfl
  |succ t=>exact ih t
theorem Ia{P:Program}{f:FuncId}{fn:Func}{args:Array Value}{w:World}(h:P.funcs[f]?=some fn)(hb:fn.body.isNone=false)(hn:(fn.name== "runtime.NumGoroutine")=false):
  (callFunc f args).run P w= .ok (.enter f args) w:=by
 have h1:(program:Sem Program).run P w= .ok P w:=rfl;simp only[callFunc,Sem.run_bind,h1,Result.andThen_ok,h,hn,hb,hS,if_false];rfl
section
variable{F:Fence}{n:Nat}{P:Program}{bN:Nat->Bool}{N:Nat}{gl:Nat->AV}{base:Nat}{LC:eX}{db:Nat}{aH:cM}
theorem aaV{v fv:AV}(h:v.yu=some fv):∃f a b,v= .fn (.func f) a b/\fv=v:=by
 unfold AV.yu at h;split at h
 ·cases h;exact⟨_,_,_,rfl,rfl⟩
 ·cases h
theorem afy(hF:∀f,F.fn f)(hd:F.depth=none)(sH:F.round=none)(iO:nJ F P base LC gl aH)(vU:AY P aH)(hK:KC aH)
  {g:Gh} {lb:LB} {own:OW} {s s':St} {ex:Ex} {a:Act} {w:World} (hs:SR gl base N LC db g lb own s a w) {f:Operand} {f':bp} (hf:cG f=some f')
  {ps:Array Tmp} {fH body:Code} {DO DW:AC} (ha:LC N DO fH) (hb:LC N DW body) (bo:∀p∈ps.toList,p<N) {lp:oX}
  (hx:exec gl aH lp (.vd f' ps.toList DO DW) s=some (ex,s')) {Q:Exit->Act->World->Prop}
  (hQ:∀g' lb' aK a' w',ep g own w g' aK w'->SR gl base N LC db g' lb' aK s' a' w'->Q ex.zs a' w'):(Code.rangeFunc f ps fH body).wpIn F n P Q a w:=by
 simp only[exec]at hx;split at hx
 ·rename_i r m hc;obtain⟨fv,GX,hc⟩:=Option.bind_eq_some_iff.1 hc;obtain⟨nR,A,B,au,rfl⟩:=aaV GX;have CG:=hs.ev _ _ hf;rw[au]at CG hc;obtain⟨As,Bs,Q1⟩:∃As Bs,a.eval f= .func (.func nR) As Bs:=by
   generalize a.eval f=y at CG;cases CG with
   |fn _ _ f2 _ _ As Bs _ _ hy=>
    cases f2<;>first|exact hy.elim|skip
    cases hy;exact⟨As,Bs,rfl⟩
  obtain⟨fn0,Kw,Kx,Zj⟩:=vU _ _ _ _ _ _ hc;refine wpIn_rangeFunc fun fn nT=>?_;have hlen:∀id b,g.mb id=some b->id<s.mem.ε.length:=hs.mem.ja;have ye:SR gl base N LC db g lb own s {a with defers:=yB w.heap.size::a.defers} (w.alloc (.deferred (some []))):=by
   have hm:=hs.mem.alloc hs.own (.deferred (some [])) none;have hl:=hs.loc.alloc hs.own (.deferred (some [])) none;have ho:=hs.own.alloc (.deferred (some [])) none;rw[TM hs.own]at hm hl ho;refine⟨hs.env,hs.gl,hs.size,?_,hm,hl,ho⟩;obtain⟨h0,ms,h1,h2,h3⟩:=hs.defers;refine⟨by simp;omega,w.heap.size::ms,xd.2 ⟨fun hm=>by have:=(h3 _ hm).2.1;omega,h1⟩,by simp[h2],fun r hr=>?_⟩;rcases dX.1 hr with rfl|hr
   ·refine⟨h0,by simp,?_,pZ w _⟩;cases hx:own w.heap.size with
    |none=>rfl
    |some o=>exact absurd rfl (yK hs.own hx)
   ·obtain⟨k1,k2,k3,k4⟩:=h3 r hr;exact⟨k1,by simp;omega,k3,(tF w _ k2).trans k4⟩
  have RY:ep g own w g own (w.alloc (.deferred (some []))):=by have:=ep.alloc g own w (.deferred (some [])) none;rwa[TM hs.own]at this
  obtain⟨wA,R5⟩:∃wA,wA=w.alloc (.deferred (some [])):=⟨_,rfl⟩;rw[<-R5]at ye RY;obtain⟨L,hL⟩:∃L:Loop,L= {state:= .ready,pending:=none,fn,tmps:=a.tmps,params:=ps,assign:=fH,body,defers:=w.heap.size}:=⟨_,rfl⟩;let gB:Gh:= {g with mb:=fun id=>if id=s.mem.ε.length then some wA.heap.size else g.mb id};let tU:OW:=gr own wA.heap.size (some (.m s.mem.ε.length));let wB:World:=wA.alloc (.loop L);have He:g.sub gB:=⟨fun _ _ _ h=>h,fun id b hb=>by
   have:=hlen id b hb
   simp only[gB];rw[if_neg (by omega)];exact hb,fun _ _ _ h=>h⟩
  have Z':bc gB tU LC {ε:=s.mem.ε++[.loop (s.env.map s.mem.ρ) ps.toList DO DW .ready],η:=[]} wB:=by
   have hm:=ye.mem;have:=hm.push (hm.alloc ye.own (.loop L) (some (.m s.mem.ε.length))) (.loop (s.env.map s.mem.ρ) ps.toList DO DW .ready) gB.mb (fun id b hb=>?_) (fun id hid=>?_) ?_
   ·exact⟨this.ja,this.nF,this.blk,this.im⟩
   ·simp only[gB]at hb;split at hb
    ·exact .inr (by assumption)
    ·exact .inl hb
   ·exact if_neg (by omega)
   ·refine⟨wA.heap.size,by simp[gB],by simp[gr],(show∀o,g.im wA.heap.size o=none from wD hm),L,N,pZ wA _,fun t=>?_,by rw[hL],by rw[hL];exact ye.size,bo,by rw[hL];exact ha,by rw[hL];exact hb,?_,fun t=>?_⟩
    ·have:=(hs.env t).ρ (lb':=cd);rw[show(s.env.map s.mem.ρ)=s.env.map ρ from rfl,QJ,hL];exact this.sub He
    ·rw[hL];exact⟨rfl,rfl⟩
    ·refine⟨g,a.tmps.getD t undef,hm.ja,hm.nF,?_⟩;rw[show(s.env.map s.mem.ρ)=s.env.map ρ from rfl,QJ];exact(hs.env t).ρ
  have hoB:bZ base tU wB:=ye.own.alloc _ _;have hyB:VR gB lb (.fn (.yield s.mem.ε.length) [] []) (.func (.yield wA.heap.size) #[] #[]):=
   .fn _ _ _ _ _ _ _ rfl rfl (by simp[rJ,gB]) (fun i hi=>by simp at hi) (fun i hi=>by simp at hi)
  have B9:=iO (n-1) gB lb tU _ wB _ _ _ _ (a.eval f) #[.func (.yield wA.heap.size) #[] #[]] Z' hoB (hs.gl.mono He) (by rw[Q1]at CG⊢;exact CG.sub He)
   (PW.cons hyB PW.nil) hc
  have RM:(Deferred.ofValue (a.eval f) #[.func (.yield wA.heap.size) #[] #[]]).run P wB= .ok {target:= .fn (.func nR) Bs,args:=As++ #[.func (.yield wA.heap.size) #[] #[]]} wB:=by rw[Q1];rfl
  have hinv:(invoke (.fn (.func nR) Bs) (As++ #[.func (.yield wA.heap.size) #[] #[]])).run P wB= .ok (.enter nR (As++ #[.func (.yield wA.heap.size) #[] #[]]++Bs)) wB:=by simp only[invoke];exact Ia Kw Kx Zj
  have dy:(do let d<-Deferred.ofValue (a.eval f) #[.func (.yield wA.heap.size) #[] #[]];invoke d.target d.args:Sem Next).run P wB= .ok (.enter nR (As++ #[.func (.yield wA.heap.size) #[] #[]]++Bs)) wB:=by simp only[Sem.run_bind,RM,Result.andThen_ok,hinv]
  have aaz:(resolve a.eval (rangeCall f wA.heap.size) 0).run P wB= .ok {target:= .fn (.func nR) Bs,args:=As++ #[.func (.yield wA.heap.size) #[] #[]]} wB:=by
   have:(#[Operand.const (.func (.yield wA.heap.size) #[] #[])].map a.eval)= #[.func (.yield wA.heap.size) #[] #[]]:=by simp[Act.eval]
   simp only[resolve,this];exact RM
  unfold AX at B9;rw[dy]at B9;have Y1:CallsIn F (n-1) P nR (As++ #[.func (.yield wA.heap.size) #[] #[]]++Bs) wB fun e w'=>∃x,e= .returned x/\od base LC gl gB tU wB r m x w':=by
   rcases B9 with⟨f2,as2,h1,h2⟩|⟨_,_,h1,_⟩|⟨_,_,_,_,_,h1,_⟩
   ·cases h1;exact h2
   ·cases h1
   ·cases h1
  refine⟨wA.heap.size,[yB w.heap.size],wB,{target:= .fn (.func nR) Bs,args:=As++ #[.func (.yield wA.heap.size) #[] #[]]},wB,nR,_,wB,?_,aaz,fun f' _=>hF f',hinv,fun h=>(by rw[hd]at h;cases h),Y1.mono fun e w3 he=>?_⟩
  ·rw[sH];show _=Result.ok (wA.heap.size,[yB w.heap.size]) (wA.alloc (.loop L));rw[R5,hL];simp only[Instr.enterLoop,Sem.run_bind,run_newObj,Result.andThen_ok,Sem.run_pure];rfl
  ·obtain⟨x,rfl,g3,tT,sK,K0,hv3,RL,ahg,ag_⟩:=he;have hk:=hK _ _ _ _ _ hc;have Z1:∃e p q r st,m.ε[s.mem.ε.length]?=some (.loop e p q r st)/\st≠ .busy/\s'= {s with mem:=s.mem.back m}∧
     ex=(match st with| .ready=> .normal| .busy=> .normal| .done none=> .ret| .done (some i)=> .exit i):=by
    split at hx
    ·rename_i he;cases hx;exact⟨_,_,_,_,_,he,by simp,rfl,rfl⟩
    ·rename_i he;cases hx;exact⟨_,_,_,_,_,he,by simp,rfl,rfl⟩
    ·rename_i he;cases hx;exact⟨_,_,_,_,_,he,by simp,rfl,rfl⟩
    ·cases hx
   obtain⟨e,p,q,r',st,gm,wk,rfl,hex⟩:=Z1;obtain⟨b,b1,b2,b3,L3,N3,b4,b5,b6,b7,b8,b9,za,tu,Bc⟩:=K0.blk _ _ gm;have gj:b=wA.heap.size:=by have:=sK.sub.2.1 s.mem.ε.length wA.heap.size (by simp[gB]);rw[this]at b1;exact(Option.some.inj b1).symm
   subst gj;have aaF:(L3.state==LoopState.busy)=false:=by
    cases st with
    |ready=>rw[tu.1];rfl
    |busy=>exact absurd rfl wk
    |done j=>cases j<;>(rw[tu.1];rfl)
   let w4:World:=fp w3 wA.heap.size (.loop {L3 with state:= .exhausted});have p0:(Instr.endLoop wA.heap.size).run P w3= .ok L3.pending w4:=by
    have h1:(getObj wA.heap.size).run P w3= .ok (.loop L3) w3:=by simp only[getObj,Sem.run,b4]
    have h2:∀y,(setObj wA.heap.size y).run P w3= .ok () (fp w3 wA.heap.size y):=fun y=>by simp only[setObj,Sem.run,b4];rfl
    simp only[Instr.endLoop,Instr.getLoop,Sem.run_bind,h1,Result.andThen_ok,Sem.run_pure,aaF,hS,if_false,h2];rfl
   have jg:∀b',b'≠wA.heap.size->w4.heap[b']?=w3.heap[b']?:=fun b' aj=>by simp only[w4,fp];rw[Iu (Ne.symm aj)]
   have ahe:(s.mem.back m).ε.length=s.mem.ε.length:=IV (by have:=hk.len;simp at this;omega);have YQ:=N1 hs.mem K0 hk;have R0:g.sub (g3.cut s.mem.ε.length):=by
    refine⟨fun b o y hy=>sK.sub.1 b o y hy,fun id b hb=>?_,fun t k y hy=>?_⟩
    ·simp only[Gh.cut];rw[if_pos (hlen id b hb)];exact sK.sub.2.1 _ _ (He.2.1 _ _ hb)
    ·simp only[Gh.cut];rw[if_pos (hs.mem.nF t k y hy)];exact sK.sub.2.2 _ _ _ hy
   have Z_:bc (g3.cut s.mem.ε.length) (pF s.mem.ε.length tT) LC (s.mem.back m) w4:=by
    refine YQ.bD (Gh.eP _) (fun _ h=>h) (fun _ _ h=>h) (fun id b hb=>⟨rfl,jg b ?_,fun _=>rfl⟩) (fun b o y hy=>?_)
    ·rintro rfl
     have h1:=(Az hb).1;rw[b2]at h1;cases h1;simp[pF,b2]at hb
    ·have aj:b≠wA.heap.size:=by rintro rfl;exact absurd ((b3 o).symm.trans hy) (by simp)
     rw[pO (jg b aj)];exact K0.im _ _ _ hy
   have qj:od base LC gl g own wA .undef (s.mem.back m) undef w4:=by
    refine⟨g3.cut s.mem.ε.length,pF s.mem.ε.length tT,⟨R0,?_,?_,?_,?_,fun b hb ho=>?_,fun b hb ho=>?_,fun b hb ho o=>?_⟩,Z_,.undef _,⟨fun b o hb=>?_,?_⟩,fun b d hb=>?_,hs.gl.mono R0⟩
    ·have h1:=sK.size;have h2:wA.heap.size<=wB.heap.size:=by simp[wB]
     simp only[w4,fp,Array.size_setIfInBounds];omega
    ·exact sK.os.trans rfl
    ·exact sK.tape.trans rfl
    ·exact sK.output.trans rfl
    ·have aj:b≠wA.heap.size:=by omega
     have Cr:ez tU b=none:=by simp only[ez,tU,gr,if_neg aj];exact ho
     have Ck:b<wB.heap.size:=by simp[wB];omega
     rw[jg b aj,sK.bD b Ck Cr];exact tF wA _ hb
    ·have aj:b≠wA.heap.size:=by omega
     have Cr:ez tU b=none:=by simp only[ez,tU,gr,if_neg aj];exact ho
     have Ck:b<wB.heap.size:=by simp[wB];omega
     exact TK (sK.kg b Ck Cr)
    ·have aj:b≠wA.heap.size:=by omega
     have Cr:ez tU b=none:=by simp only[ez,tU,gr,if_neg aj];exact ho
     have Ck:b<wB.heap.size:=by simp[wB];omega
     exact sK.im b Ck Cr o
    ·have:=RL.ge b o (Az hb).1;simpa[w4,fp]using this
    ·simpa[w4,fp]using RL.base
    ·obtain⟨_,id,h⟩:=Az hb;cases h
   obtain⟨g',lb',aK,k1,k2⟩:=ye.after (dst:=none) rfl (D6 ye qj);have qY:=hQ g' lb' aK _ w4 (RY.trans k1) k2;refine⟨L3.pending,w4,p0,?_⟩;cases st with
   |ready=>
    obtain⟨_,hp⟩:=tu
    rw[Option.isNone_iff_eq_none.1 hp];rw[hex]at qY;exact qY
   |busy=>exact absurd rfl wk
   |done j=>
    cases j with
    |none=>
     obtain⟨_,hp⟩:=tu
     cases jh:L3.pending with
     |none=>rw[jh]at hp;exact hp.elim
     |some c=>
      rw[jh]at hp
      cases c<;>first|exact hp.elim|skip
      rw[hex]at qY;exact wpIn_ret qY
    |some i=>
     obtain⟨_,hp⟩:=tu
     cases jh:L3.pending with
     |none=>rw[jh]at hp;exact hp.elim
     |some c=>
      rw[jh]at hp
      cases c<;>first|exact hp.elim|skip
      dsimp only at hp;subst hp;rw[hex]at qY;exact wpIn_exit qY
 ·cases hx
end
section
variable{F:Fence}{n:Nat}{P:Program}{bN:Nat->Bool}{N:Nat}{gl:Nat->AV}{base:Nat}{LC:eX}{db:Nat}{aH:cM}
theorem AP{P:Program}{b:Frame}{a:Act}{k:List Item}{cs:List Frame}{w:World}{c:Code}:
  step P (lone (b.atR a (.code (.scope c)::k)) cs w)= .next (lone (b.atR a (.code c:: .inScope c::k)) cs w):=
 step_lone_go (by simp[stepG,stepG.exec,Frame.atR])
theorem agj{P:Program}{b:Frame}{a:Act}{k:List Item}{cs:List Frame}{w:World}{c:Code}:
  step P (lone (b.atR a (.inScope c::k)) cs w)= .next (lone (b.atR a k) cs w):=
 step_lone_go (by simp[stepG,stepG.exec,Frame.atR])
def noGoto(Q:Exit->Act->World->Prop):Exit->Act->World->Prop
 | .goto _,_,_=>False
 |e,a,w=>Q e a w
theorem agC{F:Fence}{n:Nat}{P:Program}{Q:Exit->Act->World->Prop}{a:Act}{w:World}{c:Code}(h:c.wpIn F n P (noGoto Q) a w):(Code.scope c).wpIn F n P Q a w:=by
 intro b k cs sH hb hr;have h0:(lone (b.atR a (.code (.scope c)::k)) cs w).fenced P F:=fenced_calm hb hr rfl;obtain⟨e,a₁,w₁,hq,zN⟩:=h b (.inScope c::k) cs sH hb hr;cases e with
 |normal=>exact⟨.normal,a₁,w₁,hq,.head h0 AP (StepsIn.trans zN (.one (fenced_calm hb hr rfl) agj))⟩
 |exit id=>
  have hx:exitTo id (.inScope c::k)=exitTo id k:=by simp[exitTo]
  exact⟨.exit id,a₁,w₁,hq,fun k' hk=> .head h0 AP (zN.1 k' (by rw[hx];exact hk)),
   fun fZ hk=>let⟨k₁,h1,h2⟩:=zN.2 fZ (by rw[hx];exact hk);⟨k₁,h1,.head h0 AP h2⟩⟩
 |goto l=>exact hq.elim
 |ret=>exact⟨_,a₁,w₁,hq,.of_steps (.one h0 AP) zN⟩
 |panic ch=>exact⟨_,a₁,w₁,hq,.of_steps (.one h0 AP) zN⟩
 |outgrown=>exact⟨_,a₁,w₁,hq,.of_steps (.one h0 AP) zN⟩
theorem Ji(hF:∀f,F.fn f)(hd:F.depth=none)(iO:nJ F P base LC gl aH)(vU:AY P aH)(hK:KC aH)
  (QS:∀c,LC N (kF P bN N false c) c) (m:Nat) (c:Code):∀(rf:Bool),(rf=true->F.round=none)->∀(g:Gh) (lb:LB) (own:OW) (s:St) (ex:Ex) (s':St) (a:Act) (w:World) (Q:Exit->Act->World->Prop),
  SR gl base N LC db g lb own s a w->exec gl aH (fG m) (kF P bN N rf c) s=some (ex,s')→
  (∀g' lb' aK a' w',ep g own w g' aK w'->SR gl base N LC db g' lb' aK s' a' w'->Q ex.zs a' w')->c.wpIn F n P Q a w:=by
 induction c with
 |skip=>
  intro rf ku g lb own s ex s' a w Q hs hx hQ
  cases hx;exact wpIn_skip (hQ _ _ _ _ _ (.refl _ _ _) hs)
 |label l=>
  intro rf ku g lb own s ex s' a w Q hs hx hQ
  cases hx;exact wpIn_label (hQ _ _ _ _ _ (.refl _ _ _) hs)
 |exit id=>
  intro rf ku g lb own s ex s' a w Q hs hx hQ
  cases hx;exact wpIn_exit (hQ _ _ _ _ _ (.refl _ _ _) hs)
 |ret=>
  intro rf ku g lb own s ex s' a w Q hs hx hQ
  cases hx;exact wpIn_ret (hQ _ _ _ _ _ (.refl _ _ _) hs)
 |region id ops draw=>
  intro rf ku g lb own s ex s' a w Q hs hx hQ
  exact afr hF hd iO hs hx hQ
 |seq x y Sd mQ=>
  intro rf ku g lb own s ex s' a w Q hs hx hQ
  simp only[kF,exec]at hx;refine wpIn_seq ?_;split at hx
  ·rename_i s1 h1;refine Sd rf ku g lb own s .normal s1 a w _ hs h1 fun g1 u2 tS a1 w1 k1 k2=>?_;exact mQ rf ku g1 u2 tS s1 ex s' a1 w1 Q k2 hx fun g2 CR wN a2 w2 k3 k4=>hQ _ _ _ _ _ (k1.trans k3) k4
  ·rename_i aj;refine Sd rf ku g lb own s ex s' a w _ hs hx fun g1 u2 tS a1 w1 k1 k2=>?_;have:=hQ _ _ _ _ _ k1 k2;cases ex with
   |normal=>exact absurd hx (aj _)
   |exit i=>exact this
   |ret=>exact this
 |cond x b c gZ ihc=>
  intro rf ku g lb own s ex s' a w Q hs hx hQ
  simp only[kF]at hx;split at hx
  ·rename_i x' fS;simp only[exec]at hx;split at hx
   ·rename_i t ht;have hv:=hs.ev _ _ fS;rw[ht]at hv;have hb:a.eval x= .bool t:=by generalize a.eval x=y at hv;cases hv;rfl
    refine wpIn_cond hb ?_;cases t with
    |true=>exact gZ rf ku g lb own s ex s' a w Q hs hx hQ
    |false=>exact ihc rf ku g lb own s ex s' a w Q hs hx hQ
   ·cases hx
  ·cases hx
 |block id b ih=>
  intro rf ku g lb own s ex s' a w Q hs hx hQ
  simp only[kF,exec]at hx;refine wpIn_block ?_;split at hx
  ·rename_i i s1 h1;refine ih rf ku g lb own s (.exit i) s1 a w _ hs h1 fun g1 u2 tS a1 w1 k1 k2=>?_;simp only[Ex.zs,Exit.inBlock];split at hx
   ·rename_i hi;rw[if_pos hi];cases hx;exact hQ _ _ _ _ _ k1 k2
   ·rename_i hi;rw[if_neg hi];cases hx;exact hQ _ _ _ _ _ k1 k2
  ·rename_i aj;refine ih rf ku g lb own s ex s' a w _ hs hx fun g1 u2 tS a1 w1 k1 k2=>?_;have:=hQ _ _ _ _ _ k1 k2;cases ex with
   |normal=>exact this
   |exit i=>exact absurd hx (aj _ _)
   |ret=>exact this
 |loop b ih=>
  intro rf ku g lb own s ex s' a w Q hs hx hQ
  simp only[kF,exec]at hx;refine wpIn_loop_rounds m ?_;have key:∀(k:Nat) (g:Gh) (lb:LB) (own:OW) (s:St) (a:Act) (w:World),SR gl base N LC db g lb own s a w->fG k (exec gl aH (fG m) (kF P bN N rf b)) s=some (ex,s')→
    (∀g' lb' aK a' w',ep g own w g' aK w'->SR gl base N LC db g' lb' aK s' a' w'->Q ex.zs a' w')->Code.roundsIn F n P b Q k a w:=by
   intro k;induction k with
   |zero=>intro g lb own s a w _ hx _;simp[fG]at hx
   |succ k CJ=>
    intro g lb own s a w hs hx hQ
    simp only[fG]at hx;rw[roundsIn_succ];split at hx
    ·rename_i s1 h1;refine ih rf ku g lb own s .normal s1 a w _ hs h1 fun g1 u2 tS a1 w1 k1 k2=>?_;exact CJ g1 u2 tS s1 a1 w1 k2 hx fun g2 CR wN a2 w2 k3 k4=>hQ _ _ _ _ _ (k1.trans k3) k4
    ·rename_i aj;refine ih rf ku g lb own s ex s' a w _ hs hx fun g1 u2 tS a1 w1 k1 k2=>?_;have:=hQ _ _ _ _ _ k1 k2;cases ex with
     |normal=>exact absurd hx (aj _)
     |exit i=>exact this
     |ret=>exact this
  exact key m g lb own s a w hs hx hQ
 |rangeFunc f ps fH body eZ gZ=>
  intro rf ku g lb own s ex s' a w Q hs hx hQ
  simp only[kF]at hx;split at hx
  ·rename_i f' Cc;split at hx
   ·rename_i hc;simp only[kj,gz,decide_eq_true_eq]at hc;exact afy hF hd (ku hc.1) iO vU hK hs Cc (QS fH) (QS body) hc.2 hx hQ
   ·cases hx
  ·cases hx
 |scope b ih=>
  intro rf ku g lb own s ex s' a w Q hs hx hQ
  simp only[kF]at hx;refine agC (ih rf ku g lb own s ex s' a w _ hs hx fun g1 u2 tS a1 w1 k1 k2=>?_);have:=hQ _ _ _ _ _ k1 k2;cases ex<;>exact this
 |goto l=>intro rf ku g lb own s ex s' a w Q hs hx hQ;cases hx
 |refuse why=>intro rf ku g lb own s ex s' a w Q hs hx hQ;cases hx
end
section
variable(P:Program)
def Ja:ResultVar->Option RV
 | .tmp t=>some (.tmp t)
 | .cell a t=>match vj P t,kS P t with
  |some ag,some n=>some (.cell a ag n)
  |_,_=>none
def xo:List ResultVar->Option (List RV)
 |[]=>some []
 |r::l=>match Ja P r,xo l with
  |some a,some m=>some (a::m)
  |_,_=>none
end
section
variable{F:Fence}{n:Nat}{P:Program}{bN:Nat->Bool}{N:Nat}{gl:Nat->AV}{base:Nat}{LC:eX}{db:Nat}{aH:cM}
variable{g:Gh}{lb:LB}{own:OW}{s:St}{a:Act}{w:World}
theorem afs(hs:SR gl base N LC db g lb own s a w){rv:ResultVar}{r:RV}(hc:Ja P rv=some r){v:AV}(hv:r.get s=some v):
  ∃x,((match rv with| .tmp t=>pure (a.tmps.getD t undef)| .cell p t=>do loadVar t (<-asAddr (a.tmps.getD p undef)):Sem Value).run P w= .ok x w)/\VR g lb v x:=by
 cases rv with
 |tmp t=>
  cases hc
  simp only[RV.get,bj]at hv;subst hv;exact⟨_,rfl,hs.env t⟩
 |cell p t=>
  simp only[Ja]at hc
  split at hc
  ·rename_i ag m l7 hm;cases hc;simp only[RV.get]at hv;split at hv
   ·rename_i cs qm;obtain⟨b,off,vs,e1,e2,e3,e4,e5,e6⟩:=Ur hs.mem hs.loc (hs.env p) qm;obtain⟨s1,s2,s3⟩:=oV (P:=P) (w:=w) hm;have B3:=Io (w:=w) l7;obtain⟨k1,k2⟩:=IS (a:=vs.toArray) (g:=g) (lb:=lb) ⟨by simp;omega,fun i hi ae=>e5 i hi (by simpa using ae)⟩ (by simpa using e6) hv;have oD:∀j v,vs[j]?=some v->w.cell? ((⟨b,off,none⟩:Addr).add j)=some v:=fun j v hj=>by rw[Addr.add_mid];exact e4 j v hj
    cases ag with
    |true=>
     refine⟨_,?_,k1 rfl⟩
     have Af:=run_loadCells_list (P:=P) w ⟨b,off,none⟩ vs oD;simp only[e1,asAddr,Sem.run_bind,Sem.run_pure,Result.andThen_ok,loadVar,B3,if_true,s1];rw[<-e2];simp only[Af,Result.andThen_ok]
    |false=>
     obtain⟨z,hz,wx⟩:=k2 rfl
     have Ak:vs=[z]:=by simpa using hz
     subst Ak;have h0:w.cell? ⟨b,off,none⟩=some z:=by simpa using e4 0 z (by simp)
     refine⟨z,?_,wx⟩;simp only[e1,asAddr,Sem.run_bind,Sem.run_pure,Result.andThen_ok,loadVar,B3,hS,if_false,run_load,h0]
   ·cases hv
  ·cases hc
theorem aft(hs:SR gl base N LC db g lb own s a w):∀(De:List ResultVar) (rs:List RV) (l:List AV),xo P De=some rs->bf s rs=some l→
  ∃xs,(De.mapM (fun rv=>(match rv with| .tmp t=>pure (a.tmps.getD t undef)| .cell p t=>do loadVar t (<-asAddr (a.tmps.getD p undef)):Sem Value))).run P w= .ok xs w/\PW (VR g lb) l xs:=by
 intro De;induction De with
 |nil=>
  intro rs l h1 h2
  cases h1;cases h2;exact⟨[],rfl,PW.nil⟩
 |cons rv De ih=>
  intro rs l h1 h2
  simp only[xo]at h1;split at h1
  ·rename_i r m k1 k2;cases h1;simp only[bf]at h2;split at h2
   ·rename_i v hv;simp only[bL]at h2;obtain⟨l',h2,rfl⟩:=h2;obtain⟨x,q1,q2⟩:=afs hs k1 hv;obtain⟨xs,q3,q4⟩:=ih m l' k2 h2;refine⟨x::xs,?_,PW.cons q2 q4⟩;simp only[List.mapM_cons,Sem.run_bind,q1,Result.andThen_ok,q3,Sem.run_pure]
   ·cases h2
  ·cases h1
theorem afx(hs:SR gl base N LC db g lb own s a w){fn:Func}{rs:List RV}(hc:xo P fn.results.toList=some rs){l:List AV}(hl:bf s rs=some l):
  ∃x,(results fn a.tmps).run P w= .ok x w/\VR g lb (ba l) x:=by
 obtain⟨xs,h1,h2⟩:=aft hs _ _ _ hc hl;have hr:(results fn a.tmps).run P w= .ok (if h:xs.toArray.size=1 then xs.toArray[0]else .tuple xs.toArray) w:=by
  unfold results;rw[Array.mapM_eq_mapM_toList];simp only[Sem.run_bind,map_eq_pure_bind]
  erw [h1]
  rfl
 refine⟨_,hr,?_⟩
 match l,xs,h2 with
 |[],[],h2=>exact .aO _ [] _ rfl (fun i hi=>by simp at hi)
 |[v],[x],h2=>exact h2.2 0 (by simp) (by simp)
 |v::v'::l,x::x'::xs,h2=>
  have:¬(x::x'::xs).toArray.size=1:=by simp
  rw[dif_neg this];exact .aO _ _ _ (by simpa using h2.1.symm) (fun i hi ae=>by have:=h2.2 i hi (by simpa using ae);simpa using this)
 |[],_::_,h2=>exact absurd h2.1 (by simp)
 |[_],[],h2=>exact absurd h2.1 (by simp)
 |[_],_::_::_,h2=>exact absurd h2.1 (by simp)
 |_::_::_,[],h2=>exact absurd h2.1 (by simp)
 |_::_::_,[_],h2=>exact absurd h2.1 (by simp)
theorem agp{g0:Gh}{HV:OW}{w0:World}(he:w0.heap.size<=db){fn:Func}{T:Array Value}{R:Ending->World->Prop}:∀(ms:List Nat) (w:World),ms.Nodup->(∀r∈ms,db<=r/\r<w.heap.size/\own r=none/\w.heap[r]?=some (.deferred (some [])))->ep g0 HV w0 g own w→
   SR gl base N LC db g lb own s {tmps:=T,defers:=ms.map yB} w→
   (∀w',ep g0 HV w0 g own w'->SR gl base N LC db g lb own s {tmps:=T,defers:=[]} w'->LeavesInM F n P fn T R [] .returning w')->LeavesInM F n P fn T R (ms.map yB) .returning w:=by
 intro ms;induction ms with
 |nil=>intro w _ _ h1 h2 hK;exact hK w h1 h2
 |cons r ms ih=>
  intro w x8 nV h1 h2 hK
  obtain⟨k1,k2,k3,k4⟩:=nV r (by simp);obtain⟨RH,x8⟩:=xd.1 x8;have jg:∀b',b'≠r->(fp w r (.deferred none)).heap[b']?=w.heap[b']?:=fun b' aj=>by simp only[fp];rw[Iu (Ne.symm aj)]
  have bm:(fp w r (.deferred none)).heap.size=w.heap.size:=by simp[fp]
  refine⟨by simp,.inl ⟨r,fp w r (.deferred none),rfl,?_,ih _ x8 (fun r' fZ=>?_) ?_ ?_ hK⟩⟩
  ·have q1:(getObj r).run P w= .ok (.deferred (some [])) w:=by simp only[getObj,Sem.run,k4]
   have q2:∀y,(setObj r y).run P w= .ok () (fp w r y):=fun y=>by simp only[setObj,Sem.run,k4];rfl
   simp only[Instr.takeDeferred,Sem.run_bind,q1,Result.andThen_ok,q2,Sem.run_pure]
  ·obtain⟨j1,j2,j3,j4⟩:=nV r' (A6 _ fZ);exact⟨j1,by rw[bm];exact j2,j3,by rw[jg r' (by rintro rfl;exact RH fZ)];exact j4⟩
  ·exact⟨h1.sub,by rw[bm];exact h1.size,h1.os,h1.tape,h1.output,fun b hb ho=>by rw[jg b (by omega)];exact h1.bD b hb ho,h1.kg,h1.im⟩
  ·have eI:∀b o,own b=some o->b≠r:=fun b o hb=>by rintro rfl;rw[k3]at hb;cases hb
   refine⟨h2.env,h2.gl,h2.size,?_,h2.mem.bD (Gh.eP _) (fun _ h=>h) (fun _ _ h=>h) (fun id b hb=>⟨rfl,jg b (eI b _ hb),fun _=>rfl⟩) (fun b o y hy=>?_),
    h2.loc.bD (Gh.eP _) (fun d b hb=>⟨rfl,jg b (eI b _ hb),fun _=>rfl⟩),⟨fun b o hb=>by rw[bm];exact h2.own.ge b o hb,by rw[bm];exact h2.own.base⟩⟩
   ·refine⟨by rw[bm];exact h2.defers.1,ms,x8,rfl,fun r' fZ=>?_⟩;obtain⟨j1,j2,j3,j4⟩:=nV r' (A6 _ fZ);exact⟨j1,by rw[bm];exact j2,j3,by rw[jg r' (by rintro rfl;exact RH fZ)];exact j4⟩
   ·have aj:b≠r:=by
     rintro rfl
     have:=h2.mem.im _ _ _ hy;simp[tm,k4]at this
    rw[pO (jg b aj)];exact h2.mem.im _ _ _ hy
end
def Gh.fr(g:Gh)(own:OW)(w:World)(n:Nat):Gh:= {
 im b o:=match own b with
  |some (.m id)=>if n<=id then w.cell? ⟨b,o,none⟩else g.im b o
  |_=>g.im b o
 mb:=(g.cut n).mb
 rows:=(g.cut n).rows}
theorem XZ{g:Gh}{own:OW}{LC:eX}{mem:Mem}{w:World}(hm:bc g own LC mem w)(n:Nat)(b o:Nat)(x:Value)(h:(g.fr own w n).im b o=some x):w.cell? ⟨b,o,none⟩=some x:=by
 simp only[Gh.fr]at h;split at h
 ·split at h
  ·exact h
  ·exact hm.im _ _ _ h
 ·exact hm.im _ _ _ h
theorem xz{g:Gh}{own:OW}{LC:eX}{mem:Mem}{w:World}(hm:bc g own LC mem w)(n:Nat):(g.cut n).sub (g.fr own w n):=by
 refine⟨fun b o x hx=>?_,fun _ _ h=>h,fun _ _ _ h=>h⟩;have hx:g.im b o=some x:=hx;simp only[Gh.fr];split
 ·split
  ·exact hm.im _ _ _ hx
  ·exact hx
 ·exact hx
theorem WJ{n:Nat}{hp:Nat->Nat->AV}{hs:Nat->Nat->Nat->Nat->AV}(h1:∀id off,(hp id off).cells=[hp id off])(h2:∀kd id off m,(hs kd id off m).cells=[hs kd id off m])(v:AV):
  (cA n hp hs v).cells=v.cells.map (cA n hp hs):=by
 cases v with
 |μ id off=>
  by_cases h:id<n
  ·simp[cA,AV.cells,h]
  ·have e:cA n hp hs (.μ id off)=hp id off:=by simp[cA,h]
   rw[e,h1,<-e];rfl
 |sl kd id off m cap=>
  by_cases h:id<n
  ·simp[cA,AV.cells,h]
  ·have e:cA n hp hs (.sl kd id off m cap)=hs kd id off m:=by simp[cA,h]
   rw[e,h2,<-e];rfl
 |fn f a b=>simp only[cA,AV.cells,ah,aw];by_cases h:Fn.below n f=true<;>simp[h]
 |map id=>simp only[cA,AV.cells,ah,aw];by_cases h:id<n<;>simp[h]
 |_=>simp[cA,AV.cells,pd]
theorem Je(s:Nat):∀(m:Nat) (l:List AV),(chunk s m l).length=m:=by
 intro m;induction m with
 |zero=>intro l;rfl
 |succ m ih=>intro l;simp[chunk,ih]
theorem PI(s:Nat):∀(m:Nat) (l:List AV) (i:Nat) (h:i<(chunk s m l).length),(chunk s m l)[i]= .agg ((l.drop (i*s)).take s):=by
 intro m;induction m with
 |zero=>intro l i h;simp[chunk]at h
 |succ m ih=>
  intro l i h
  cases i with
  |zero=>simp[chunk]
  |succ i=>
   simp only[chunk,List.getElem_cons_succ]
   rw[ih];rw[List.drop_drop,kV,Nat.one_mul,y0]
section
variable{g:Gh}{own:OW}{LC:eX}{mem:Mem}{w:World}
theorem N8(hm:bc g own LC mem w){id b n:Nat}{l:List AV}(hb:g.mb id=some b)(hl:mem.ε[id]?=some (.cells l))(hn:¬id<n):
  ∃a:Array Value,a.size=l.length/\(∀i (h:i<a.size),(g.fr own w n).im b i=some a[i]/\a[i].oneCell'=true)/\∀i (h:i<l.length) (h':i<a.size),VR g cd l[i] a[i]:=by
 obtain⟨b',k1,k2,k3,a,e,k4,k5,k6,k7⟩:=hm.blk id _ hl;rw[hb]at k1;cases k1;refine⟨a,k5,fun i h=>⟨?_,k7 i h⟩,fun i h h'=>k6 i h h'⟩;simp only[Gh.fr,k2];rw[if_pos (by omega)];simp[tm,k4,h]
theorem EG(bs:List θ)(n k:Nat)(v:AV):(ax bs n k v).cells=v.cells.map (ax bs n k):=by
 cases k with
 |zero=>exact D' n false v
 |succ k=>
  refine WJ (fun id off=>?_) (fun kd id off m=>?_) v
  ·split<;>rfl
  ·(repeat' split)<;>rfl
theorem X6(hm:bc g own LC mem w)(n:Nat):∀(k:Nat) {lb lb':LB} {v:AV} {x:Value},VR g lb v x->VR (g.fr own w n) lb' (ax mem.ε n k v) x:=by
 intro k;induction k with
 |zero=>intro lb lb' v x h;exact(h.exp n false).sub (xz hm n)
 |succ k CJ=>
  intro lb lb' v x h
  induction h generalizing lb' with
  |undef=>exact .undef _
  |dd _ x h=>exact .dd _ x h
  |int _ k n=>exact .int _ k n
  |bool _ b=>exact .bool _ b
  |str _ b s h=>exact .str _ b s h
  |iR=>exact .iR _
  |Ω _ d v off b h=>exact .dd _ _ rfl
  |μ _ id off b h=>
   simp only[ax,cA]
   split
   ·rename_i hi;exact .μ _ id off b (by simp only[Gh.fr,Gh.cut,hi,if_true];exact h)
   ·rename_i hi;split
    ·rename_i l hl;obtain⟨a,h1,h2,h3⟩:=N8 hm h hl hi;refine .ref _ _ b off (fun i=>a.getD (off+i) undef) (fun i ae=>?_) (fun i ae=>?_)
     ·simp at ae;have ν:off+i<a.size:=by omega
      have:=h2 (off+i) ν;simpa[rI,ν]using this
     ·simp at ae;have ν:off+i<a.size:=by omega
      have:=CJ (lb':=cd) (h3 (off+i) (by omega) ν);simpa[rI,ν]using this
    ·exact .dd _ _ rfl
  |ref _ l b o xs cJ _ ih=>
   simp only[ax,cA,pd]
   refine .ref _ _ b o xs (fun i hi=>?_) (fun i hi=>?_)
   ·have:=cJ i (by simpa using hi);exact⟨(xz hm n).1 _ _ _ this.1,this.2⟩
   ·simp only[iG];exact ih i (by simpa using hi)
  |iQ=>
   simp only[ax,cA,pd,aw,Γ.exp]
   exact .iQ _
  |sl _ kd id off m cap b hc h=>
   simp only[ax,cA]
   split
   ·rename_i hi;exact .sl _ kd id off m cap b hc (by simp only[Gh.fr,Gh.cut,hi,if_true];exact h)
   ·rename_i hi;split
    ·rename_i l hl;obtain⟨a,h1,h2,h3⟩:=N8 hm h hl hi;split
     ·rename_i v_;split
      ·rename_i Aa;subst Aa;have ag9:off+m<=l.length:=by have e0:Nat.max 0 1=1:=rfl;rw[e0]at v_;omega
       split
       ·rename_i G4;simp only[gz]at G4;have zQ:∀v,v∈(l.drop off).take m->(ax mem.ε n k v).cells=[ax mem.ε n k v]:=fun v hv=>by rw[EG];have:=G4 v hv;cases v<;>simp_all [AV.cells,AV.one]
        refine .list _ .any _ b off 1 m cap (fun i _=>a.getD (off+i) undef) (by simp;omega) hc trivial (fun e he=>?_) (fun i ae j hj=>?_) (fun i ae j hj=>?_)
        ·obtain⟨v,hv,rfl⟩:=jv.1 he;rw[zQ v hv];rfl
        ·obtain rfl:j=0:=by omega
         have ν:off+i<a.size:=by omega
         have:=h2 (off+i) ν;simpa[rI,ν]using this
        ·simp at ae;have ν:off+i<a.size:=by omega
         have cE:l[off+i]'(by omega)∈(l.drop off).take m:=by rw[qH];exact⟨i,by simp;omega,by simp⟩
         have e1:((((l.drop off).take m).map (ax mem.ε n k))[i]'(by simp;omega))=ax mem.ε n k (l[off+i]'(by omega)):=by simp
         have e2:=zQ _ cE;have ZI:j=0:=by have:=hj;simp only[e1,e2,List.length_cons,List.length_nil]at this;omega
         subst ZI;have:=CJ (lb':=cd) (h3 (off+i) (by omega) ν);simp only[e1,e2,List.getElem_cons_zero];simpa[rI,ν]using this
       ·exact .dd _ _ rfl
      ·rename_i Aa;have me:Nat.max kd 1=kd:=Nat.max_eq_left (by omega);rw[me]at v_;have hbound:∀i j,i<m->j<kd->off+(i*kd+j)<l.length:=by intro i j hi hj;have:=Hi hi hj;omega
       refine .list _ .any _ b off kd m cap (fun i j=>a.getD (off+(i*kd+j)) undef) (Je _ _ _) hc trivial (fun e he=>?_) (fun i ae j hj=>?_) (fun i ae j hj=>?_)
       ·obtain⟨i,oG,rfl⟩:=qH.1 he;rw[PI];simp only[AV.cells,kD,kz,dq];rw[Je]at oG;have h5:(i+1)*kd<=m*kd:=Nat.mul_le_mul_right _ oG;rw[kV]at h5;omega
       ·have ν:off+(i*kd+j)<a.size:=by rw[h1];exact hbound i j ae hj
        have:=h2 _ ν;simpa[rI,ν]using this
       ·have oG:i<m:=by rw[Je]at ae;exact ae
        have e0:=PI kd m ((l.drop off).map (ax mem.ε n k)) i ae;have xW:j<kd:=by have:=hj;rw[e0]at this;simp only[AV.cells,kD,kz,dq]at this;omega
        have ν:off+(i*kd+j)<a.size:=by rw[h1];exact hbound i j oG xW
        have:=CJ (lb':=cd) (h3 _ (hbound i j oG xW) ν);have e1:(((chunk kd m ((l.drop off).map (ax mem.ε n k)))[i]'ae).cells[j]'hj)=ax mem.ε n k (l[off+(i*kd+j)]'(hbound i j oG xW)):=by simp only[e0,AV.cells,List.getElem_take,List.getElem_drop,iG]
        rw[e1];simpa[rI,ν]using this
     ·exact .dd _ _ rfl
    ·exact .dd _ _ rfl
  |g_ _ c a cap hc=>
   have he:ax mem.ε n (k+1) (.list c [])= .list (c.exp n false) []:=by simp only[ax,cA,pd,aw]
   rw[he];refine .g_ _ _ a cap ?_;rcases hc with rfl|⟨rfl,h⟩<;>exact .inl rfl
  |list _ c l b o sz m cap xs lJ dp hc bm cJ _ ih=>
   have he:ax mem.ε n (k+1) (.list c l)= .list (c.exp n false) (l.map (ax mem.ε n (k+1))):=by simp only[ax,cA,pd]
   rw[he];have B_:∀v,(ax mem.ε n (k+1) v).cells=v.cells.map (ax mem.ε n (k+1)):=EG _ _ _;refine .list _ _ _ b o sz m cap xs (by simpa using lJ) dp (PH (xz hm n) (PG hc)) ?_ (fun i hi j hj=>?_) ?_
   ·intro e he;obtain⟨e',gW,rfl⟩:=jv.1 he;rw[B_,dq];exact bm e' gW
   ·have:=cJ i hi j hj;exact⟨(xz hm n).1 _ _ _ this.1,this.2⟩
   ·intro i hi j hj;have ae:i<l.length:=by simpa using hi
    have dD:j<l[i].cells.length:=by simpa[B_]using hj
    have:=ih i ae j dD (lb':=cd);simpa[B_]using this
  |agg _ l a hs h1 _ ih=>
   simp only[ax,cA,pd]
   refine .agg _ _ a (by simpa using hs) h1 fun i hi ae=>?_;simp only[iG];exact ih i (by simpa using hi) ae
  |aO _ l a hs _ ih=>
   simp only[ax,cA,pd]
   refine .aO _ _ a (by simpa using hs) fun i hi ae=>?_;simp only[iG];exact ih i (by simpa using hi) ae
  |fn _ f f' l m' a b hs ht hy _ _ kN gq=>
   simp only[ax,cA,pd]
   split
   ·rename_i hf;refine .fn _ f f' _ _ a b (by simpa using hs) (by simpa using ht) ?_ (fun i hi ae=>?_) (fun i hi ae=>?_)
    ·cases f<;>cases f'<;>first|exact hy|exact hy.elim|skip
     simp only[Fn.below,decide_eq_true_eq]at hf;simp only[rJ,Gh.fr,Gh.cut,hf,if_true];exact hy
    ·simp only[iG];exact kN i (by simpa using hi) ae
    ·simp only[iG];exact gq i (by simpa using hi) ae
   ·exact .dd _ _ rfl
  |eU=>exact .eU _
  |iface _ t v x _ ih=>exact .iface _ t _ x ih
  |ga=>exact .ga _
  |map _ id b h=>
   simp only[ax,cA]
   split
   ·rename_i hi;exact .map _ id b (by simp only[Gh.fr,Gh.cut,hi,if_true];exact h)
   ·exact .dd _ _ rfl
  |fP=>exact .fP _
theorem X0{n:Nat}{m':Mem}(hm:bc g own LC mem w)(h:bc (g.cut n) (pF n own) LC m' w):bc (g.fr own w n) (pF n own) LC m' w:=by
 refine h.bD (xz hm n) (fun _ h=>h) (fun _ _ h=>h) (fun id b hb=>⟨rfl,rfl,fun o=>?_⟩) (fun b o x hx=>XZ hm n b o x hx);have h1:=(Az hb).1;have h2:id<n:=by
  simp only[pF,h1]at hb;split at hb
  ·assumption
  ·cases hb
 simp only[Gh.fr,h1];rw[if_neg (by omega)];rfl
end
def Nx(F:Fence)(n:Nat)(P:Program)(run:Result Next)(w:World)(R:Value->World->Prop):Prop:=
 (∃(f:FuncId) (as:Array Value),run= .ok (.enter f as) w/\CallsIn F n P f as w fun e w'=>∃x,e= .returned x/\R x w')∨
 (∃x w',run= .ok (.value x) w'/\R x w')∨
 (∃(l:Nat) (f:FuncId) (tmps:Array Value) (assign body:Code),run= .ok (.round l f tmps assign body) w∧
  RoundIn F n P l f tmps assign body w fun e w'=>∃x,e= .returned x/\R x w')
def mC(F:Fence)(P:Program)(base:Nat)(LC:eX)(gl:Nat->AV)(f:FuncId)(p:Prim):Prop:=
 ∀(n:Nat) (g:Gh) (own:OW) (mem:Mem) (w:World) (args:List AV) (r:AV) (m':Mem) (bU:Array Value),
  bc g own LC mem w->bZ base own w->mX g gl->PW (VR g cd) args bU.toList->p args mem=some (r,m')→
  Nx F n P ((callFunc f bU).run P w) w (od base LC gl g own w r m')
def mA(P:Program):eX:=fun N a c=>∃bN,a=kF P bN N false c
structure az (P:Program) (f:FuncId) (g:AF):Prop where
 ex:∃fn c bN,P.funcs[f]?=some fn/\fn.body=some c/\(fn.name== "runtime.NumGoroutine")=false/\g.code=kF P bN fn.ntmps true c/\xo P fn.results.toList=some g.results
structure Dx (F:Fence) (P:Program) (base:Nat) (C:iT):Prop where
 fs:∀f g,C.fs f=some g->az P f g
 jG:∀f p,C.jG f=some p->mC F P base (mA P) C.gl f p
 HZ:∀f p,C.jG f=some p->∀args m r m',p args m=some (r,m')->KM m m'
 MJ:∀f p,C.jG f=some p->(∃fn,P.funcs[f]?=some fn/\fn.body.isNone=false/\(fn.name== "runtime.NumGoroutine")=false)∨
  ∀first cap l mem,p ((first++[.fn (.yield l) [] []]++cap).map (exp mem.ε.length (C.bD f))) mem=none
section
variable{F:Fence}{n:Nat}{P:Program}{bN:Nat->Bool}{N:Nat}{gl:Nat->AV}{base:Nat}{LC:eX}{db:Nat}{aH:cM}
variable{g:Gh}{lb:LB}{own:OW}{s:St}{a:Act}{w:World}
theorem PV{C:iT}(hC:Dx F P base C):∀k,AY P (cv C k):=by
 intro k;cases k with
 |zero=>intro f first cap l mem r h;simp[cv]at h
 |succ k=>
  intro f first cap l mem r h
  simp only[cv,body]at h;split at h
  ·rename_i p hp;rcases hC.MJ f p hp with h1|h1
   ·exact h1
   ·rw[h1]at h;cases h
  ·split at h
   ·rename_i g hg;obtain⟨fn,c,bN,h1,h2,h3,h4,h5⟩:=(hC.fs f g hg).ex;exact⟨fn,h1,by simp[h2],h3⟩
   ·cases h
theorem u7{own:OW}{b id:Nat}(h:own b=some (.m id)):ez own b=some (.m id):=by simp[ez,h]
theorem TL{own:OW}{b:Nat}(h:own b=none):ez own b=none:=by simp[ez,h]
theorem bc.ez{mem:Mem}(h:bc g own LC mem w):bc g (ez own) LC mem w:=
 h.bD g.eP (fun _ h=>h) (fun _ _ h=>h) (fun id b hb=>⟨by rw[u7 hb,hb],rfl,fun _=>rfl⟩) h.im
theorem bc.UX{mem:Mem}(h:bc g own LC mem w)(t:List Nat):bc g own LC {ε:=mem.ε,η:=t} w:=⟨h.ja,h.nF,h.blk,h.im⟩
theorem bZ.ez(h:bZ base own w):bZ base (ez own) w:=⟨fun b o hb=>h.ge b o (tV hb).1,h.base⟩
theorem Ya(args:Array Value)(k t:Nat):(args++aie k undef).getD t undef=args.getD t undef:=by
 simp only[rI,Array.getElem?_append];split
 ·rfl
 ·rename_i h;rw[aid (xs:=args) (by omega)];by_cases h2:t-args.size<k
  ·simp[h2]
  ·simp[h2]
theorem Yc(l:List AV)(t:Nat):bq l t=(l[t]?).getD .undef:=by
 induction l generalizing t with
 |nil=>simp[bq]
 |cons a l ih=>cases t with
  |zero=>rfl
  |succ t=>simp[bq,ih]
theorem Xs{args:List AV}{bU:Array Value}(h:PW (VR g lb) args bU.toList)(k t:Nat):VR g lb (bq args t) ((bU++aie k undef).getD t undef):=by
 rw[Ya,Yc,rI];rcases bP t args.length with ν|cD
 ·have dE:t<bU.size:=by have:=h.1;simp at this;omega
  have:=h.2 t ν (by simpa using dE);simpa[ν,dE]using this
 ·have Cf:bU.size<=t:=by have:=h.1;simp at this;omega
  rw[iU cD,aid Cf];exact .undef _
theorem XV(hF:∀f,F.fn f)(hd:F.depth=none)(sH:F.round=none)(iO:nJ F P base (mA P) gl aH)(vU:AY P aH)(hK:KC aH){m:Nat}
  {f:FuncId} {fn:Func} {c:Code} (Kw:P.funcs[f]?=some fn) (Kx:fn.body=some c) {gf:AF} (Zk:gf.code=kF P bN fn.ntmps true c) (Zl:xo P fn.results.toList=some gf.results)
  {mem:Mem} (hm:bc g own (mA P) mem w) (ho:bZ base own w) (eB:mX g gl) {args:List AV} {bU:Array Value} (jz:PW (VR g cd) args bU.toList) {bD:Bool} {r:AV} {m':Mem}
  (hx:fin gf bD mem (exec gl aH (fG m) gf.code {env:=args,loc:=[],mem:= {ε:=mem.ε,η:=[]}})=some (r,m')):
  CallsIn F n P f bU w fun e w'=>∃x,e= .returned x/\od base (mA P) gl g own w r m' x w':=by
 generalize hex:exec gl aH (fG m) gf.code _=y at hx;cases y with
 |none=>simp[fin]at hx
 |some y=>
 obtain⟨ex,s'⟩:=y
 have Yy:=zr hK (IQ m) _ _ _ _ hex;rw[Zk]at hex;have lq:SR gl base fn.ntmps (mA P) w.heap.size g cd (ez own) {env:=args,loc:=[],mem:= {ε:=mem.ε,η:=[]}}
   {tmps:=bU++aie (fn.ntmps-bU.size) undef,defers:=[]} w:=by
  refine⟨fun t=>Xs jz _ t,eB,by simp;omega,Marks.nil (bQ _),hm.ez.UX _,⟨fun d v l h=>(by cases h),fun d v s p h=>(by cases h),fun d v b h=>(by cases h)⟩,ho.ez⟩
 refine callsIn_of_wp_marks Kw Kx (hF f) ?_ sH;refine Ji hF hd iO vU hK (fun c=>⟨bN,rfl⟩) m c true (fun _=>sH) g cd (ez own) _ ex s' _ w _ lq hex fun g' lb' aK a' w' h1 h2=>?_;have nu:(match bf s' gf.results with
   |some l=>if bD then some (exp s'.mem.ε.length true (ba l),({ε:=s'.mem.ε,η:=mem.η++s'.mem.η}:Mem))
    else some (ax s'.mem.ε mem.ε.length 8 (ba l),mem.back s'.mem)
   |none=>none)=some (r,m')->LeavesInM F n P fn a'.tmps (fun e w'=>∃x,e=Ending.returned x/\od base (mA P) gl g own w r m' x w') a'.defers .returning w':=by
  intro hx;obtain⟨h0,ms,x8,Rg,nV⟩:=h2.defers;have pW:SR gl base fn.ntmps (mA P) w.heap.size g' lb' aK s' {tmps:=a'.tmps,defers:=ms.map yB} w':=by rw[<-Rg];exact h2
  rw[Rg];refine agp (bQ _) ms w' x8 nV h1 pW fun w2 k1 k2=>?_;split at hx
  ·rename_i l hl;obtain⟨x,q1,q2⟩:=afx k2 Zl hl;refine⟨x,q1,x,rfl,?_⟩;split at hx
   ·simp only[bj,aL]at hx;obtain⟨rfl,rfl⟩:=hx;refine⟨g',ez aK,⟨k1.sub,k1.size,k1.os,k1.tape,k1.output,k1.bD,fun b hb h=>TL (k1.kg b hb h),k1.im⟩,k2.mem.ez.UX _,(q2.exp _ _).sub (g'.Jo _),k2.own.ez,fun b d hb=>?_,k2.gl⟩;obtain⟨_,id,h⟩:=tV hb;cases h
   ·simp only[bj,aL]at hx;obtain⟨rfl,rfl⟩:=hx;have hb:=N1 hm (extra:=[]) k2.mem (by rw[List.append_nil];exact Yy);have ef:g.sub (g'.cut mem.ε.length):=by
     refine⟨fun b o y hy=>k1.sub.1 b o y hy,fun id b hb=>?_,fun t k y hy=>?_⟩
     ·simp only[Gh.cut];rw[if_pos (hm.ja id b hb)];exact k1.sub.2.1 _ _ hb
     ·simp only[Gh.cut];rw[if_pos (hm.nF t k y hy)];exact k1.sub.2.2 _ _ _ hy
    refine⟨g'.fr aK w2 mem.ε.length,pF mem.ε.length aK,⟨Gh.Dl ef (xz k2.mem _),k1.size,k1.os,k1.tape,k1.output,k1.bD,fun b hb h=>TK (k1.kg b hb h),fun b hb h o=>?_⟩,X0 k2.mem hb,X6 k2.mem _ _ q2,
     ⟨fun b o hb=>k2.own.ge b o (Az hb).1,k2.own.base⟩,fun b d hb=>?_,eB.mono (Gh.Dl ef (xz k2.mem _))⟩
    ·have hu:=k1.kg b hb h;have:(g'.fr aK w2 mem.ε.length).im b o=g'.im b o:=by simp only[Gh.fr,hu]
     rw[this];exact k1.im b hb h o
    obtain⟨_,id,h⟩:=Az hb;cases h
  ·cases hx
 cases ex with
 |exit i=>simp[fin]at hx
 |normal=>exact nu hx
 |ret=>exact nu hx
end
section
variable{F:Fence}{n:Nat}{P:Program}{bN:Nat->Bool}{N:Nat}{gl:Nat->AV}{base:Nat}{LC:eX}{db:Nat}{aH:cM}
variable{g:Gh}{lb:LB}{own:OW}{s:St}{a:Act}{w:World}
theorem Ml{m:Mem}{l:Nat}{st:LS}(h:m.ls l=some st):∃e p q c,m.ε[l]?=some (.loop e p q c st):=by
 unfold Mem.ls at h;split at h
 ·rename_i e p q c bA he;cases h;exact⟨e,p,q,c,he⟩
 ·cases h
theorem UH(hs:SR gl base N LC db g lb own s a w){l b:Nat}(hb:g.mb l=some b){yU:LS}(oK:s.mem.ls l=some yU){st:LS}{L L':Loop}(hL:w.heap[b]?=some (.loop L))
  (h1:L'.tmps=L.tmps) (h2:L'.params=L.params) (h3:L'.assign=L.assign) (h4:L'.body=L.body) (τ:NA st L'):
  ∃g' lb' aK,ep g own w g' aK (fp w b (.loop L'))/\SR gl base N LC db g' lb' aK {s with mem:=s.mem.iF l st} a (fp w b (.loop L')):=by
 obtain⟨e,p,q,c,gm⟩:=Ml oK;obtain⟨b',b1,b2,b3,L2,N2,b4,b5,b6,b7,b8,b9,za,tu,Bc⟩:=hs.mem.blk l _ gm;rw[hb]at b1;cases b1;rw[hL]at b4;cases b4;have hid:l<s.mem.ε.length:=(lx.1 gm).1;have hp:=Di (x:= .loop L') (blk:= .loop e p q c st) hs.mem hs.loc hs.own b2 hid b3
  ⟨b,hb,b2,b3,L',N2,AJ hL _,by rw[h1];exact b5,by rw[h2];exact b6,by rw[h1];exact b7,b8,by rw[h3];exact b9,by rw[h4];exact za,τ,Bc⟩
 obtain⟨g',lb',aK,k1,k2⟩:=hs.after (dst:=none) rfl hp;refine⟨g',lb',aK,k1,?_⟩;have:s.mem.iF l st=s.mem.put l (.loop e p q c st) true:=by simp only[Mem.iF,gm,Mem.put,if_true]
 rw[this];exact k2
theorem V6(hs:SR gl base N LC db g lb own s a w){l b:Nat}(hb:g.mb l=some b)(oK:s.mem.ls l=some .ready):
  ∃w',(Instr.beginRound b).run P w= .ok () w'/\∃g' lb' aK,ep g own w g' aK w'/\SR gl base N LC db g' lb' aK {s with mem:=s.mem.iF l .busy} a w':=by
 obtain⟨e,p,q,c,gm⟩:=Ml oK;obtain⟨b',b1,b2,b3,L,N2,b4,b5,b6,b7,b8,b9,za,tu,Bc⟩:=hs.mem.blk l _ gm;rw[hb]at b1;cases b1;obtain⟨g',lb',aK,k1,k2⟩:=UH hs hb oK (st:= .busy) (L':= {L with state:= .busy}) b4 rfl rfl rfl rfl rfl;refine⟨_,?_,g',lb',aK,k1,k2⟩;have q1:(getObj b).run P w= .ok (.loop L) w:=by simp only[getObj,Sem.run,b4]
 have q2:∀y,(setObj b y).run P w= .ok () (fp w b y):=fun y=>by simp only[setObj,Sem.run,b4];rfl
 simp only[Instr.beginRound,Instr.getLoop,Sem.run_bind,q1,Result.andThen_ok,Sem.run_pure,q2,tu.1]
theorem Xr(hs:SR gl base N LC db g lb own s a w){l b:Nat}(hb:g.mb l=some b)(oK:s.mem.ls l=some .busy){jump:Option Code}{st:LS}
  (hj:(jump=none/\st= .ready)\/(jump=some .ret/\st= .done none)\/∃i,jump=some (.exit i)/\st= .done (some i)):
  ∃w',(Instr.endRound b jump).run P w= .ok (.bool jump.isNone) w'/\∃g' lb' aK,ep g own w g' aK w'/\SR gl base N LC db g' lb' aK {s with mem:=s.mem.iF l st} a w':=by
 obtain⟨e,p,q,c,gm⟩:=Ml oK;obtain⟨b',b1,b2,b3,L,N2,b4,b5,b6,b7,b8,b9,za,tu,Bc⟩:=hs.mem.blk l _ gm;rw[hb]at b1;cases b1;obtain⟨g',lb',aK,k1,k2⟩:=UH hs hb oK (st:=st) (L':= {L with state:=if jump.isNone then .ready else .done,pending:=jump}) b4 rfl rfl rfl rfl (by
  rcases hj with⟨rfl,rfl⟩|⟨rfl,rfl⟩|⟨i,rfl,rfl⟩
  ·exact⟨rfl,rfl⟩
  ·exact⟨rfl,trivial⟩
  ·exact⟨rfl,rfl⟩)
 refine⟨_,?_,g',lb',aK,k1,k2⟩;have q1:(getObj b).run P w= .ok (.loop L) w:=by simp only[getObj,Sem.run,b4]
 have q2:∀y,(setObj b y).run P w= .ok () (fp w b y):=fun y=>by simp only[setObj,Sem.run,b4];rfl
 simp only[Instr.endRound,Instr.getLoop,Sem.run_bind,q1,Result.andThen_ok,Sem.run_pure,q2]
theorem agc{N:Nat}:∀(ps:List Nat) (args:List AV) (bU:List Value) (env:List AV) (tmps:Array Value),ps.length=args.length->PW (VR g cd) args bU->N<=tmps.size->(∀p∈ps,p<N)→
  (∀t,VR g cd (bq env t) (tmps.getD t undef))→
  (∀t,VR g cd (bq (t_ env ps args) t) (((ps.zip bU).foldl (fun tmps (x:Nat×Value)=>tmps.setIfInBounds x.1 x.2) tmps).getD t undef))∧
   N<=((ps.zip bU).foldl (fun tmps (x:Nat×Value)=>tmps.setIfInBounds x.1 x.2) tmps).size:=by
 intro ps;induction ps with
 |nil=>
  intro args bU env tmps hl dc hN hp hv
  cases args with
  |nil=>exact⟨by simpa[t_]using hv,by simpa using hN⟩
  |cons a args=>simp at hl
 |cons p ps ih=>
  intro args bU env tmps hl dc hN hp hv
  cases args with
  |nil=>simp at hl
  |cons x args=>
   cases bU with
   |nil=>exact absurd dc.1 (by simp)
   |cons y bU=>
    simp only[t_,List.zip_cons_cons,List.foldl_cons]
    refine ih args bU (rD env p x) (tmps.setIfInBounds p y) (by simpa using hl) ⟨by simpa using dc.1,fun i hi ae=>by have:=dc.2 (i+1) (by simpa using hi) (by simpa using ae);simpa using this⟩ (by simpa using hN) (fun q hq=>hp q (A6 _ hq)) fun t=>?_;rw[gN,rI,Array.getElem?_setIfInBounds];have cm:=hp p (by simp);by_cases Lm:p=t
    ·subst Lm;rw[if_pos rfl,if_pos rfl,if_pos (by omega)];exact dc.2 0 (by simp) (by simp)
    ·rw[if_neg Lm,if_neg Lm,<-rI];exact hv t
theorem nJ.inRound(h:nJ F P base LC gl aH)(b:Nat):nJ (F.inRound b) P base LC gl aH:=
 fun n g lb own mem w fv args r m' fx bU h1 h2 h3 h4 h5 h6=>h n g lb own mem w fv args r m' fx bU h1 h2 h3 h4 h5 h6
theorem afC(hF:∀f,F.fn f)(hd:F.depth=none)(iO:nJ F P base (mA P) gl aH)(vU:AY P aH)(hK:KC aH){m:Nat}
  {l b:Nat} (hb:g.mb l=some b) {mem:Mem} (hm:bc g own (mA P) mem w) (ho:bZ base own w) (eB:mX g gl) {args:List AV} {bU:Array Value} (jz:PW (VR g lb) args bU.toList) {r:AV} {m':Mem}
  (hx:round (exec gl aH (fG m)) l args mem=some (r,m')):
  ∃nR tmps fH zd,(Instr.yield b bU).run P w= .ok (.round b nR tmps fH zd) w∧
   RoundIn F n P b nR tmps fH zd w fun e w'=>∃x,e= .returned x/\od base (mA P) gl g own w r m' x w':=by
 unfold round at hx;split at hx
 ·rename_i env ps fH body st gm;split at hx
  ·rename_i hlen;split at hx
   ·rename_i s1 Q5;split at hx
    ·rename_i Z2;obtain⟨b',b1,b2,b3,L,N,b4,b5,b6,b7,b8,b9,za,tu,Bc⟩:=hm.blk l _ gm;rw[hb]at b1;cases b1;obtain⟨Xt,GU⟩:=b9;obtain⟨Xu,kJ⟩:=za;have bm:args.length=bU.size:=by simpa using jz.1
     have ph:PW (VR g cd) (args.map (exp mem.ε.length false)) bU.toList:=jz.map _ fun a b h=>(h.exp _ _).sub (g.Jo _);obtain⟨v1,v2⟩:=agc ps (args.map (exp mem.ε.length false)) bU.toList env L.tmps (by simpa using hlen) ph b7 b8 b5;have Zp:(L.params.zip bU).foldl (fun tmps (x:Nat×Value)=>tmps.setIfInBounds x.1 x.2) L.tmps=(ps.zip bU.toList).foldl (fun tmps (x:Nat×Value)=>tmps.setIfInBounds x.1 x.2) L.tmps:=by rw[<-Array.foldl_toList,Array.toList_zip,b6]
     refine⟨L.fn,(ps.zip bU.toList).foldl (fun tmps (x:Nat×Value)=>tmps.setIfInBounds x.1 x.2) L.tmps,L.assign,L.body,?_,roundIn_of_wpIn (hF _) ?_⟩
     ·have q1:(getObj b).run P w= .ok (.loop L) w:=by simp only[getObj,Sem.run,b4]
      have bo:bU.size=L.params.size:=by rw[b6];simp;omega
      simp only[Instr.yield,Instr.getLoop,Sem.run_bind,q1,Result.andThen_ok,Sem.run_pure];rw[if_neg (by simp[bo]),<-Zp];rfl
     ·have lq:SR gl base N (mA P) w.heap.size g cd (ez own) {env:=t_ env ps (args.map (exp mem.ε.length false)),loc:=[],mem:=mem}
        {tmps:=(ps.zip bU.toList).foldl (fun tmps (x:Nat×Value)=>tmps.setIfInBounds x.1 x.2) L.tmps,defers:=[]} w:=
       ⟨v1,eB,v2,Marks.nil (bQ _),hm.ez,⟨fun d v l h=>(by cases h),fun d v s p h=>(by cases h),fun d v b h=>(by cases h)⟩,ho.ez⟩
      rw[GU]at Q5;refine Ji (F:=F.inRound b) hF hd (iO.inRound b) vU hK (fun c=>⟨Xt,rfl⟩) m L.assign false (by simp) g cd (ez own) _ .normal s1 _ w _ lq Q5 fun g1 u2 tS a1 w1 h1 h2=>?_;obtain⟨w2,iN,g2,CR,wN,h3,h4⟩:=V6 (P:=P) h2 (h1.sub.2.1 _ _ hb) Z2;refine⟨w2,iN,?_⟩;have fin:∀(ex:Ex) (s2:St) (jump:Option Code) (bA:LS),((jump=none/\bA= .ready)\/(jump=some .ret/\bA= .done none)\/∃i,jump=some (.exit i)/\bA= .done (some i))→
        exec gl aH (fG m) body {s1 with mem:=s1.mem.iF l .busy}=some (ex,s2)->s2.mem.ls l=some .busy->r= .bool jump.isNone->m'=s2.mem.iF l bA→
        (∀a3 w3,(∃v w',(Instr.endRound b jump).run P w3= .ok v w'/\∃x,Ending.returned v= .returned x/\od base (mA P) gl g own w r m' x w')→
         roundPost P b (fun e w'=>∃x,e= .returned x/\od base (mA P) gl g own w r m' x w') ex.zs a3 w3)→
        L.body.wpIn (F.inRound b) n P (roundPost P b fun e w'=>∃x,e= .returned x/\od base (mA P) gl g own w r m' x w') a1 w2:=by
       intro ex s2 jump bA hj vT xZ hr lJ qj;rw[kJ]at vT;refine Ji (F:=F.inRound b) hF hd (iO.inRound b) vU hK (fun c=>⟨Xu,rfl⟩) m L.body false (by simp) g2 CR wN _ ex s2 _ w2 _ h4 vT fun g3 lb3 tT a3 w3 h5 h6=>?_;obtain⟨w4,p0,g4,lb4,aeB,h7,h8⟩:=Xr (P:=P) h6 (h5.sub.2.1 _ _ (h3.sub.2.1 _ _ (h1.sub.2.1 _ _ hb))) xZ hj;refine qj a3 w3 ⟨_,w4,p0,_,rfl,?_⟩;have k:=((h1.trans h3).trans h5).trans h7;subst hr lJ;refine⟨g4,ez aeB,⟨k.sub,k.size,k.os,k.tape,k.output,k.bD,fun b hb h=>TL (k.kg b hb h),k.im⟩,h8.mem.ez,.bool _ _,h8.own.ez,fun b d hb=>?_,h8.gl⟩;obtain⟨_,id,h⟩:=tV hb;cases h
      split at hx
      ·rename_i s2 vT;split at hx
       ·rename_i xZ;cases hx;exact fin .normal s2 none .ready (.inl ⟨rfl,rfl⟩) vT xZ rfl rfl fun a3 w3 h=>h
       ·cases hx
      ·rename_i s2 vT;split at hx
       ·rename_i xZ;cases hx;exact fin .ret s2 (some .ret) (.done none) (.inr (.inl ⟨rfl,rfl⟩)) vT xZ rfl rfl fun a3 w3 h=>h
       ·cases hx
      ·rename_i i s2 vT;split at hx
       ·rename_i xZ;cases hx;exact fin (.exit i) s2 (some (.exit i)) (.done (some i)) (.inr (.inr ⟨i,rfl,rfl⟩)) vT xZ rfl rfl fun a3 w3 h=>h
       ·cases hx
      ·cases hx
    ·cases hx
   ·cases hx
  ·cases hx
 ·cases hx
theorem PX(hF:∀f,F.fn f)(hd:F.depth=none)(sH:F.round=none){C:iT}(hC:Dx F P base C):∀k,nJ F P base (mA P) C.gl (cv C k):=by
 intro k;induction k with
 |zero=>intro n g lb own mem w fv args r m' fx bU _ _ _ _ _ h;simp[cv]at h
 |succ k ih=>
  intro n g lb own mem w fv args r m' fx bU hm ho eB GX jz hx
  simp only[cv,body]at hx;split at hx
  ·rename_i f first cap
   obtain⟨As,Bs,rfl,Yr,Yu⟩:∃As Bs,fx= .func (.func f) As Bs/\PW (VR g lb) first As.toList/\PW (VR g lb) cap Bs.toList:=by
    cases GX with
    |fn _ _ f2 _ _ As Bs hs ht hy hv hw=>
     cases f2<;>first|exact hy.elim|skip
     cases hy;exact⟨As,Bs,rfl,⟨by simpa using hs.symm,fun i hi ae=>by simpa using hv i hi (by simpa using ae)⟩,⟨by simpa using ht.symm,fun i hi ae=>by simpa using hw i hi (by simpa using ae)⟩⟩
   have dy:(do let d<-Deferred.ofValue (.func (.func f) As Bs) bU;invoke d.target d.args:Sem Next).run P w=(callFunc f (As++bU++Bs)).run P w:=by simp only[Deferred.ofValue,Sem.run_bind,Sem.run_pure,Result.andThen_ok,invoke]
   have pg:PW (VR g cd) ((first++args++cap).map (exp mem.ε.length (C.bD f))) (As++bU++Bs).toList:=by have:=(Yr.append jz).append Yu;simp only[Array.toList_append];exact this.map _ fun a b h=>(h.exp _ _).sub (g.Jo _)
   unfold AX;rw[dy];split at hx
   ·rename_i p hp;exact hC.jG f p hp n g own mem w _ r m' _ hm ho eB pg hx
   ·split at hx
    ·rename_i gf hg;obtain⟨fn,c,bN,h1,h2,h3,h4,h5⟩:=(hC.fs f gf hg).ex;exact .inl ⟨f,_,Ia h1 (by simp[h2]) h3,XV hF hd sH ih (PV hC k) (PU C hC.HZ k) h1 h2 h4 h5 hm ho eB pg hx⟩
    ·cases hx
  ·rename_i l;obtain⟨b,rfl,hb⟩:∃b,fx= .func (.yield b) #[] #[]/\g.mb l=some b:=by
    cases GX with
    |fn _ _ f2 _ _ As Bs hs ht hy hv hw=>
     cases f2<;>first|exact hy.elim|skip
     have e1:As= #[]:=Iv.1 hs;have e2:Bs= #[]:=Iv.1 ht;subst e1 e2;exact⟨_,rfl,hy⟩
   obtain⟨nR,tmps,fH,zd,h1,h2⟩:=afC (n:=n) hF hd ih (PV hC k) (PU C hC.HZ k) hb hm ho eB jz hx;refine .inr (.inr ⟨b,nR,tmps,fH,zd,?_,h2⟩);simp only[Deferred.ofValue,Sem.run_bind,Sem.run_pure,Result.andThen_ok,invoke];have:(#[]++bU:Array Value)=bU:=by simp
   rw[this];exact h1
  ·cases hx
end
end Go.ab
