import Derived.Test.YtiigojkfojnedaaGreatDoorTR
import Derived.Lib.AppendStr
import Derived.Lib.Atoi
import Derived.Lib.ItoaNum
import Derived.Lib.Join
import Derived.Lib.Bytealg
set_option linter.all false
set_option maxRecDepth 100000
set_option maxHeartbeats 8000000
open Nat renaming le_trans->uZ,lt_of_lt_of_le->kj,le_max_left->ye,le_max_right->yf,lt_or_ge->cX,zero_add->lj,le_refl->bA
open Option renaming map_eq_some_iff->bE,map_some->qh,bind_eq_some_iff->B8
open List renaming nil_append->bG,getElem_cons_zero->lE,eq_nil_of_length_eq_zero->nB,append_assoc->bH,getElem?_eq_none->hU,getElem?_append_left->eo,length_nil->eI,map_cons->aA,getElem?_set_ne->gR,map_map->dc,map_congr_left->dD,getElem?_eq_getElem->dN,range->qZ,mem_map->eT,getD_eq_getElem?_getD->nC,getElem_map->iY,getElem_range->J4,length_map->cF,length->ki,length_append->cD,length_take->kE,length_set->mS,getElem?_set->wx,getElem?_eq_some_iff->fu
open Array renaming length_toList->wu,getElem?_eq_some_iff->zX
open Go.IntKind renaming u8->alw
open Option.some renaming injEq->bc
open Prod.mk renaming injEq->az
namespace Go.Δ
open Go.RowKit (Below)
section
variable{F:Fence}{n:Nat}{P:Program}{gl:Nat->AV}{base:Nat}{LC:eX}{g:Gh}{own:OW}{mem:Mem}{w w':World}{r:AV}{x:Value}
theorem ZP(hm:a_ g own LC mem w)(ho:bT base own w)(eE:mP g gl)(hb:Below w.heap.size w w')(hv:VR g bV r x):lT base LC gl g own w r mem x w':=by
 obtain⟨h1,h2,h3,h4,h5⟩:=hb;refine⟨g,er own,⟨g.eP,h4,h1,h2,h3,fun b hb _=>h5 b hb,fun _ _ h=>by simpa[er]using h,fun _ _ _ _=>rfl⟩,?_,hv,⟨fun b o hb=>?_,uZ ho.base h4⟩,fun b d hb=>?_,eE⟩
 ·refine hm.bm g.eP (fun _ h=>h) (fun _ _ h=>h) (fun id b hb=>⟨by rw[v7 hb,hb],h5 b (ho.ge b _ hb).2,fun _=>rfl⟩) (fun b o y hy=>?_);have hc:=hm.im b o y hy;rw[qj (h5 b (wH hc))];exact hc
 ·have:=ho.ge b o (uI hb).1;exact⟨this.1,kj this.2 h4⟩
 ·obtain⟨_,id,h⟩:=uI hb;cases h
theorem FA{f:FuncId}{fn:Func}{bN:Array Value}(hf:P.funcs[f]?=some fn)(hb:fn.body.isNone=false)(hn:(fn.name== "runtime.NumGoroutine")=false){R:Value->World->Prop}
  (h:CallsIn F n P f bN w fun e w'=>∃x,e= .returned x/\R x w'):P9 F n P ((callFunc f bN).run P w) w R:=
 .inl ⟨f,bN,Ew hf hb hn,h⟩
theorem Em{R:AV->Value->Prop}{a:AV}{bN:Array Value}(h:PW R [a] bN.toList):∃x,bN= #[x]/\R a x:=by
 obtain⟨l⟩:=bN
 match l,h with
 |[x],h=>exact⟨x,rfl,h.2 0 (by simp) (by simp)⟩
 |[],h=>exact absurd h.1 (by simp)
 |_::_::_,h=>exact absurd h.1 (by simp)
theorem Je{R:AV->Value->Prop}{a b:AV}{bN:Array Value}(h:PW R [a,b] bN.toList):∃x y,bN= #[x,y]/\R a x/\R b y:=by
 obtain⟨l⟩:=bN
 match l,h with
 |[x,y],h=>exact⟨x,y,rfl,h.2 0 (by simp) (by simp),h.2 1 (by simp) (by simp)⟩
 |[],h=>exact absurd h.1 (by simp)
 |[_],h=>exact absurd h.1 (by simp)
 |_::_::_::_,h=>exact absurd h.1 (by simp)
end
open Classical
noncomputable def ah(C:iK):cu:=fun fv args mem=>
 if h:∃r k,cv C k fv args mem=some r then some h.choose else none
noncomputable def dL:pq:=fun b s=>if h:∃r n,fN n b s=some r then some h.choose else none
theorem oA{C:iK}{fv args mem r}:ah C fv args mem=some r↔∃k,cv C k fv args mem=some r:=by
 unfold ah;split
 ·rename_i h;obtain⟨k,hk⟩:=h.choose_spec;constructor
  ·intro he;cases he;exact⟨k,hk⟩
  ·rintro⟨k',dh⟩
   have h1:=yt C (ye k k') _ _ _ _ hk;have h2:=yt C (yf k k') _ _ _ _ dh;rw[h1]at h2;exact h2
 ·rename_i h;constructor
  ·intro he;cases he
  ·rintro⟨k,hk⟩;exact absurd ⟨r,k,hk⟩ h
theorem Qo{b:St->Option (Ex×St)}{n m:Nat}(h:n<=m){s r}(hr:fN n b s=some r):fN m b s=some r:=
 Fc n m h b b (fun _ _ h=>h) s r hr
theorem IN{b s r}:dL b s=some r↔∃n,fN n b s=some r:=by
 unfold dL;split
 ·rename_i h;obtain⟨k,hk⟩:=h.choose_spec;constructor
  ·intro he;cases he;exact⟨k,hk⟩
  ·rintro⟨k',dh⟩
   have h1:=Qo (ye k k') hk;have h2:=Qo (yf k k') dh;rw[h1]at h2;exact h2
 ·rename_i h;constructor
  ·intro he;cases he
  ·rintro⟨k,hk⟩;exact absurd ⟨r,k,hk⟩ h
theorem Ce(n:Nat)(b:St->Option (Ex×St))(s:St):fN (n+1) b s=match b s with
  |some (.normal,s')=>fN n b s'
  |r=>r:=rfl
theorem afS{b:St->Option (Ex×St)}{s s':St}(h:b s=some (.normal,s')):dL b s=dL b s':=by
 apply Option.ext;intro r;rw[IN,IN];constructor
 ·rintro⟨n,hn⟩
  cases n with
  |zero=>simp[fN]at hn
  |succ n=>rw[Ce,h]at hn;exact⟨n,hn⟩
 ·rintro⟨n,hn⟩
  exact⟨n+1,by rw[Ce,h];exact hn⟩
theorem Wi{b:St->Option (Ex×St)}{s:St}{r:Ex×St}(h:b s=some r)(hr:r.1≠ .normal):dL b s=some r:=by rw[IN];refine⟨1,?_⟩;rw[Ce,h];obtain⟨e,s'⟩:=r;cases e<;>simp_all
section
variable{C:iK}{gl:Nat->AV}
theorem YS{ev lk mem dst o r}(h:aH ev lk mem (ah C) dst o=some r):∃k,aH ev lk mem (cv C k) dst o=some r:=by
 cases o
 case call f args=>
  simp only[aH,bE]at h⊢
  obtain⟨x,hx,hr⟩:=h;obtain⟨k,hk⟩:=oA.1 hx;exact⟨k,x,hk,hr⟩
 case callz f args=>
  simp only[aH]at h⊢
  split at h
  ·rename_i he;obtain⟨k,hk⟩:=oA.1 he;exact⟨k,by rw[hk];exact h⟩
  ·cases h
 all_goals exact⟨0,h⟩
theorem QA{o s r}(h:dG gl (ah C) o s=some r):∃k,dG gl (cv C k) o s=some r:=by
 unfold dG at h⊢;split at h
 ·cases h
 ·split at h
  ·rename_i he;obtain⟨k,hk⟩:=YS he;exact⟨k,by rw[hk];exact h⟩
  ·cases h
 ·exact⟨0,h⟩
theorem YU{l s r}(h:dT gl (ah C) l s=some r):∃k,dT gl (cv C k) l s=some r:=by
 induction l generalizing s with
 |nil=>exact⟨0,h⟩
 |cons o l ih=>
  simp only[dT]at h⊢
  split at h
  ·rename_i s' he;obtain⟨k1,h1⟩:=QA he;obtain⟨k2,h2⟩:=ih h;refine⟨max k1 k2,?_⟩;rw[Ff (yt C (ye _ _)) h1];exact Qr (yt C (yf _ _)) h2
  ·cases h
theorem YX{l s r}(h:ef gl (ah C) l s=some r):∃k,ef gl (cv C k) l s=some r:=by
 induction l generalizing s r with
 |nil=>exact⟨0,h⟩
 |cons o l ih=>
  simp only[ef]at h⊢
  split at h
  ·rename_i s' he;simp only[bE]at h;obtain⟨x,hx,rfl⟩:=h;obtain⟨k1,h1⟩:=QA he;obtain⟨k2,h2⟩:=ih hx;refine⟨max k1 k2,?_⟩;rw[Ff (yt C (ye _ _)) h1];simp only[Qz (yt C (yf _ _)) h2,qh]
  ·cases h
theorem YI{l cf af s r}(h:eU gl (ah C) l cf af s=some r):∃k,eU gl (cv C k) l cf af s=some r:=by
 unfold eU at h⊢;split at h
 ·rename_i tr he;obtain⟨k,hk⟩:=YX he;exact⟨k,by rw[hk];exact h⟩
 ·cases h
theorem sG{k k':Nat}(hk:k<=k'){a:AC}{s r}(h:exec gl (cv C k) (fN k) a s=some r):exec gl (cv C k') (fN k') a s=some r:=
 FV (yt C hk) (Fc _ _ hk) a s r h
theorem Az(a:AC):∀s r,exec gl (ah C) dL a s=some r->∃k,exec gl (cv C k) (fN k) a s=some r:=by
 induction a with
 |skip=>intro s r h;exact⟨0,h⟩
 |ops l=>
  intro s r h
  simp only[exec,bE]at h⊢;obtain⟨x,hx,hr⟩:=h;obtain⟨k,hk⟩:=YU hx;exact⟨k,x,hk,hr⟩
 |draw l cf af=>
  intro s r h
  simp only[exec,bE]at h⊢;obtain⟨x,hx,hr⟩:=h;obtain⟨k,hk⟩:=YI hx;exact⟨k,x,hk,hr⟩
 |seq a b dK gu=>
  intro s r h
  simp only[exec]at h;split at h
  ·rename_i s' he;obtain⟨k1,h1⟩:=dK _ _ he;obtain⟨k2,h2⟩:=gu _ _ h;exact⟨max k1 k2,by simp only[exec,sG (ye k1 k2) h1];exact sG (yf k1 k2) h2⟩
  ·rename_i τ;obtain⟨k1,h1⟩:=dK _ _ h;refine⟨k1,?_⟩;simp only[exec,h1];split
   ·rename_i he;cases he;exact absurd h (τ _)
   ·rfl
 |cond x a b dK gu=>
  intro s r h
  simp only[exec]at h⊢;split at h
  ·split at h
   ·rename_i he ht;obtain⟨k,hk⟩:=dK _ _ h;exact⟨k,by simp only[ht,if_true];exact hk⟩
   ·rename_i he ht;obtain⟨k,hk⟩:=gu _ _ h;exact⟨k,by simp only[ht];exact hk⟩
  ·cases h
 |block id a dK=>
  intro s r h
  simp only[exec]at h⊢;split at h
  ·rename_i he;obtain⟨k,hk⟩:=dK _ _ he;exact⟨k,by rw[hk];exact h⟩
  ·rename_i τ;obtain⟨k,hk⟩:=dK _ _ h;refine⟨k,?_⟩;rw[hk];split
   ·rename_i he;cases he;exact absurd h (τ _ _)
   ·rfl
 |loop a dK=>
  intro s r h
  simp only[exec]at h⊢;obtain⟨n,hn⟩:=IN.1 h;have:∀n s,fN n (exec gl (ah C) dL a) s=some r->∃k,fN k (exec gl (cv C k) (fN k) a) s=some r:=by
   intro n;induction n with
   |zero=>intro s h;simp[fN]at h
   |succ n ih=>
    intro s h
    simp only[fN]at h;split at h
    ·rename_i s' he;obtain⟨k1,h1⟩:=dK _ _ he;obtain⟨k2,h2⟩:=ih _ h;refine⟨max k1 k2+1,?_⟩;rw[Ce,sG (show k1<=max k1 k2+1 by omega) h1];exact Fc _ _ (show k2<=max k1 k2 by omega) _ _ (fun s r h=>sG (show k2<=max k1 k2+1 by omega) h) _ _ h2
    ·rename_i τ;obtain⟨k1,h1⟩:=dK _ _ h;refine⟨k1+1,?_⟩;rw[Ce,sG (show k1<=k1+1 by omega) h1];split
     ·rename_i he;cases he;exact absurd h (τ _)
     ·rfl
  exact this n s hn
 |exit id=>intro s r h;exact⟨0,h⟩
 |ret=>intro s r h;exact⟨0,h⟩
 |BC f ps fO body _ _=>
  intro s r h
  simp only[exec]at h⊢;split at h
  ·rename_i he;obtain⟨fv,h1,h2⟩:=B8.1 he;obtain⟨k,hk⟩:=oA.1 h2;refine⟨k,?_⟩;rw[h1];simp only[Option.bind_some,hk];exact h
  ·cases h
 |Ek ds=>intro s r h;exact⟨0,h⟩
 |bad=>intro s r h;exact⟨0,h⟩
theorem aiO{l args mem r}(h:round (exec gl (ah C) dL) l args mem=some r):∃k,round (exec gl (cv C k) (fN k)) l args mem=some r:=by
 unfold round at h⊢;split at h
 ·split at h
  ·rename_i hlen;simp only[hlen,if_true];split at h
   ·rename_i he;obtain⟨k1,h1⟩:=Az _ _ _ he;split at h
    ·rename_i nZ;split at h
     ·rename_i l7;obtain⟨k2,h2⟩:=Az _ _ _ l7;exact⟨max k1 k2,by simp only[sG (ye k1 k2) h1,nZ,if_true,sG (yf k1 k2) h2];exact h⟩
     ·rename_i l7;obtain⟨k2,h2⟩:=Az _ _ _ l7;exact⟨max k1 k2,by simp only[sG (ye k1 k2) h1,nZ,if_true,sG (yf k1 k2) h2];exact h⟩
     ·rename_i l7;obtain⟨k2,h2⟩:=Az _ _ _ l7;exact⟨max k1 k2,by simp only[sG (ye k1 k2) h1,nZ,if_true,sG (yf k1 k2) h2];exact h⟩
     ·cases h
    ·cases h
   ·cases h
  ·cases h
 ·cases h
theorem sF{fv args mem r}(h:body C (ah C) dL fv args mem=some r):ah C fv args mem=some r:=by
 apply oA.2;unfold body at h;split at h
 ·split at h
  ·rename_i p hp;exact⟨1,by simp only[cv,body,hp];exact h⟩
  ·rename_i hp;split at h
   ·rename_i g hg;generalize he:exec C.gl (ah C) dL _ _=x at h;cases x with
    |none=>simp[fin]at h
    |some x=>
     obtain⟨k,hk⟩:=Az _ _ _ he
     exact⟨k+1,by simp only[cv,body,hp,hg,hk];exact h⟩
   ·cases h
 ·split at h
  ·rename_i g hg;generalize he:exec C.gl (ah C) dL _ _=x at h;cases x with
   |none=>simp[fin]at h
   |some x=>
    obtain⟨k,hk⟩:=Az _ _ _ he
    exact⟨k+1,by simp only[cv,body,hg,hk];exact h⟩
  ·cases h
 ·obtain⟨k,hk⟩:=aiO h;exact⟨k+1,by simp only[cv,body];exact hk⟩
 ·cases h
end
theorem afT{b:St->Option (Ex×St)}{I:Nat->St->Prop}{h_:Ex×St->Prop}(n:Nat)
  (step:∀i s,i<=n->I i s->(∃s',b s=some (.normal,s')/\i<n/\I (i+1) s')\/(∃r,b s=some r/\r.1≠ .normal/\h_ r)):
  ∀k i s,i+k=n->I i s->∃r,dL b s=some r/\h_ r:=by
 intro k;induction k with
 |zero=>
  intro i s hi hI
  rcases step i s (by omega) hI with⟨s',_,h,_⟩|⟨r,h1,h2,h3⟩
  ·omega
  ·exact⟨r,Wi h1 h2,h3⟩
 |succ k ih=>
  intro i s hi hI
  rcases step i s (by omega) hI with⟨s',h1,h,h2⟩|⟨r,h1,h2,h3⟩
  ·obtain⟨r,h3,h4⟩:=ih (i+1) s' (by omega) h2;exact⟨r,by rw[afS h1];exact h3,h4⟩
  ·exact⟨r,Wi h1 h2,h3⟩
theorem afQ{gl:Nat->AV}{c:cu}{a:AC}{I:Nat->St->Prop}{h_:Ex×St->Prop}(n:Nat){s:St}(h0:I 0 s)
  (step:∀i s,i<=n->I i s->(∃s',exec gl c dL a s=some (.normal,s')/\i<n/\I (i+1) s')\/(∃r,exec gl c dL a s=some r/\r.1≠ .normal/\h_ r)):
  ∃r,exec gl c dL (.loop a) s=some r/\h_ r:=by
 simp only[exec];exact afT n step n 0 s (by omega) h0
def κ(gl:Nat->AV)(c:cu)(a:AC)(s:St)(Q:Ex×St->Prop):Prop:=∃r,exec gl c dL a s=some r/\Q r
theorem κ.seq{gl:Nat->AV}{c:cu}{a b:AC}{s:St}{M:St->Prop}{Q:Ex×St->Prop}(h:κ gl c a s fun r=>(r.1= .normal/\M r.2)\/(r.1≠ .normal/\Q r))(k:∀s',M s'->κ gl c b s' Q):κ gl c (.seq a b) s Q:=by
 obtain⟨⟨e,s'⟩,h1,h2⟩:=h;rcases h2 with⟨rfl,h2⟩|⟨h2,h3⟩
 ·obtain⟨r,h3,h4⟩:=k s' h2;exact⟨r,by simp only[exec,h1];exact h3,h4⟩
 ·refine⟨(e,s'),?_,h3⟩;simp only[exec,h1];cases e<;>simp_all
theorem κ.seq'{gl:Nat->AV}{c:cu}{a b:AC}{s:St}{M:St->Prop}{Q:Ex×St->Prop}(h:∃s',exec gl c dL a s=some (.normal,s')/\M s')(k:∀s',M s'->κ gl c b s' Q):κ gl c (.seq a b) s Q:=by obtain⟨s',h1,h2⟩:=h;exact κ.seq ⟨_,h1,.inl ⟨rfl,h2⟩⟩ k
abbrev AV.n(x:Int):AV:= .int .i64 x
abbrev St.e(s:St)(n:Nat):AV:=aI s.env n
abbrev St.q(s:St)(n:Nat):Option (Nat×θ):=bQ s.loc n
abbrev kU(B:List θ)(p:Nat)(c:List AV)(x:List θ)(T:List Nat):Mem:= {ε:=B.set p (.cells c)++x,ζ:=T}
theorem Θ{gl:Nat→AV}{c:cu}{a b:AC}{s:St}(M:St→Prop){Q:Ex×St→Prop}(h:∃s',exec gl c dL a s=some (.normal,s')∧M s')(k:∀s',M s'→κ gl c b s' Q):κ gl c (.seq a b) s Q:=κ.seq' h k
theorem bP{gl:Nat→AV}{c:cu}{a b:AC}{s:St}(M:St→Prop){Q:Ex×St→Prop}(h:κ gl c a s fun r=>(r.1= .normal∧M r.2)∨(r.1≠ .normal∧Q r))(k:∀s',M s'→κ gl c b s' Q):κ gl c (.seq a b) s Q:=κ.seq h k
attribute [simp] AV.n St.e St.q kU
theorem κ.block{gl:Nat->AV}{c:cu}{a:AC}{i:Nat}{s:St}{Q:Ex×St->Prop}(h:κ gl c a s fun r=>(r.1= .exit i/\Q (.normal,r.2))\/(r.1≠ .exit i/\Q r)):κ gl c (.block i a) s Q:=by
 obtain⟨⟨e,s'⟩,h1,h2⟩:=h;rcases h2 with⟨rfl,h2⟩|⟨h2,h3⟩
 ·exact⟨_,by simp only[exec,h1,if_true],h2⟩
 ·refine⟨(e,s'),?_,h3⟩;simp only[exec,h1];cases e with
  |exit j=>
   have:j≠i:=fun he=>h2 (by rw[he])
   simp only[this,if_false]
  |_=>rfl
theorem κ.loop{gl:Nat->AV}{c:cu}{a:AC}{I:Nat->St->Prop}{Q:Ex×St->Prop}(n:Nat){s:St}(h0:I 0 s)
  (step:∀i s,i<=n->I i s->(i<n/\∃s',exec gl c dL a s=some (.normal,s')/\I (i+1) s')\/(∃r,exec gl c dL a s=some r/\r.1≠ .normal/\Q r)):κ gl c (.loop a) s Q:=
 afQ n h0 fun i s hi hI=>(step i s hi hI).imp (fun⟨h1,s',h2,h3⟩=>⟨s',h2,h1,h3⟩) id
theorem An(m:Mem):m.back {ε:=m.ε,ζ:=[]}=m:=by cases m;simp[Mem.back,lS]
theorem Y8(m:Mem)(l:List θ):m.back {ε:=m.ε++l,ζ:=[]}=m:=by cases m;simp[Mem.back,lS]
theorem KL{C:iK}{f:FuncId}{g:AF}{args:List AV}{m:Mem}{ex:Ex}{s':St}{l:List AV}(hp:C.iX f=none)(hf:C.fs f=some g)(hk:C.bm f=false)
  (hx:exec C.gl (ah C) dL g.code {env:=args.map (exp m.ε.length false),loc:=[],mem:= {ε:=m.ε,ζ:=[]}}=some (ex,s')) (hex:∀i,ex≠ .exit i) (hl:cH s' g.results=some l):
  ah C (.fn (.func f) [] []) args m=some (aK s'.mem.ε m.ε.length 8 (cJ l),m.back s'.mem):=by
 apply sF;simp only[body,hp,hf,hk,bG,List.append_nil,hx];cases ex with
 |exit i=>exact absurd rfl (hex i)
 |_=>simp only[fin,hl];rfl
theorem sB{C:iK}{f:FuncId}{g:AF}{args cap:List AV}{m:Mem}{ex:Ex}{s':St}{l:List AV}(hp:C.iX f=none)(hf:C.fs f=some g)(hk:C.bm f=true)
  (hx:exec C.gl (ah C) dL g.code {env:=(args++cap).map (exp m.ε.length true),loc:=[],mem:= {ε:=m.ε,ζ:=[]}}=some (ex,s')) (hex:∀i,ex≠ .exit i) (hl:cH s' g.results=some l):
  ah C (.fn (.func f) [] cap) args m=some (exp s'.mem.ε.length true (cJ l),{ε:=s'.mem.ε,ζ:=m.ζ++s'.mem.ζ}):=by
 apply sF;simp only[body,hp,hf,hk,bG,hx];cases ex with
 |exit i=>exact absurd rfl (hex i)
 |_=>simp only[fin,hl];rfl
theorem eN{C:iK}{f:FuncId}{g:AF}{args:List AV}{m:Mem}{v:AV}(hp:C.iX f=none)(hf:C.fs f=some g)(hk:C.bm f=false)
  (hx:κ C.gl (ah C) g.code {env:=args.map (exp m.ε.length false),loc:=[],mem:= {ε:=m.ε,ζ:=[]}} fun r=>
   (∀i,r.1≠ .exit i)/\(∃bs,r.2.mem= {ε:=m.ε++bs,ζ:=[]})/\∃l,cH r.2 g.results=some l/\aK r.2.mem.ε m.ε.length 8 (cJ l)=v):ah C (.fn (.func f) [] []) args m=some (v,m):=by
 obtain⟨⟨ex,s'⟩,h1,h2,⟨bs,h3⟩,l,h4,h5⟩:=hx;rw[KL hp hf hk h1 h2 h4];dsimp only at h3 h5;rw[h5,h3,Y8]
theorem κ.go{gl:Nat->AV}{c:cu}{a b:AC}{s s':St}{Q:Ex×St->Prop}(h:exec gl c dL a s=some (.normal,s'))(k:κ gl c b s' Q):κ gl c (.seq a b) s Q:=
 κ.seq' (M:=fun x=>x=s') ⟨s',h,rfl⟩ fun _ e=>e▸k
theorem κ.mono{gl:Nat->AV}{c:cu}{a:AC}{s:St}{Q Q':Ex×St->Prop}(h:κ gl c a s Q)(k:∀r,Q r->Q' r):κ gl c a s Q':=by obtain⟨r,h1,h2⟩:=h;exact⟨r,h1,k r h2⟩
theorem κ.yes{gl:Nat->AV}{c:cu}{a b:AC}{x:bw}{s:St}{Q:Ex×St->Prop}(hx:dr gl s.env x= .bool true)(h:κ gl c a s Q):κ gl c (.cond x a b) s Q:=by obtain⟨r,h1,h2⟩:=h;exact⟨r,by simp[exec,hx,h1],h2⟩
theorem κ.no{gl:Nat->AV}{c:cu}{a b:AC}{x:bw}{s:St}{Q:Ex×St->Prop}(hx:dr gl s.env x= .bool false)(h:κ gl c b s Q):κ gl c (.cond x a b) s Q:=by obtain⟨r,h1,h2⟩:=h;exact⟨r,by simp[exec,hx,h1],h2⟩
theorem κ.upto{gl:Nat->AV}{c:cu}{a:AC}{I:Nat->St->Prop}{Q:Ex×St->Prop}(n:Nat){s:St}(h0:I 0 s)
  (step:∀i s,i<n->I i s->κ gl c a s fun r=>(r.1= .normal/\I (i+1) r.2)\/(r.1≠ .normal/\Q r)) (last:∀s,I n s->κ gl c a s fun r=>r.1≠ .normal/\Q r):κ gl c (.loop a) s Q:=by
 refine κ.loop n h0 fun i s hi hs=>?_;rcases cX i n with h|h
 ·obtain⟨⟨e,s'⟩,h1,h2⟩:=step i s h hs;rcases h2 with⟨rfl,h2⟩|⟨h2,h3⟩
  ·exact .inl ⟨h,s',h1,h2⟩
  ·exact .inr ⟨_,h1,h2,h3⟩
 ·have:i=n:=by omega
  subst this;obtain⟨r,h1,h2,h3⟩:=last s hs;exact .inr ⟨r,h1,h2,h3⟩
theorem VA{C:iK}{f:FuncId}{g:AF}{args cap:List AV}{m m':Mem}{v:AV}(hp:C.iX f=none)(hf:C.fs f=some g)(hk:C.bm f=true)
  (hx:κ C.gl (ah C) g.code {env:=(args++cap).map (exp m.ε.length true),loc:=[],mem:= {ε:=m.ε,ζ:=[]}} fun r=>
   (∀i,r.1≠ .exit i)/\(r.2.mem= {ε:=m'.ε,ζ:=[]})/\∃l,cH r.2 g.results=some l/\exp m'.ε.length true (cJ l)=v) (ht:m'.ζ=m.ζ):ah C (.fn (.func f) [] cap) args m=some (v,m'):=by
 obtain⟨⟨ex,s'⟩,h1,h2,h3,l,h4,h5⟩:=hx;rw[sB hp hf hk h1 h2 h4];dsimp only at h3 h5;rw[h3];cases m';simp_all
theorem kz{C:iK}{f:FuncId}{g:AF}{fst args cap:List AV}{m:Mem}{v:AV}{B:List θ}(hp:C.iX f=none)(hf:C.fs f=some g)(hk:C.bm f=false)(hB:B.length=m.ε.length)
  (hx:κ C.gl (ah C) g.code {env:=(fst++args++cap).map (exp m.ε.length false),loc:=[],mem:= {ε:=m.ε,ζ:=[]}} fun r=>
   (∀i,r.1≠ .exit i)/\(∃bs,r.2.mem= {ε:=B++bs,ζ:=[]})/\∃l,cH r.2 g.results=some l/\aK r.2.mem.ε m.ε.length 8 (cJ l)=v):ah C (.fn (.func f) fst cap) args m=some (v,{ε:=B,ζ:=m.ζ}):=by
 obtain⟨⟨ex,s'⟩,h1,h2,⟨bs,h3⟩,l,h4,h5⟩:=hx;have:ah C (.fn (.func f) fst cap) args m=some (aK s'.mem.ε m.ε.length 8 (cJ l),m.back s'.mem):=by
  apply sF;simp only[body,hp,hf,hk,h1];cases ex with
  |exit i=>exact absurd rfl (h2 i)
  |_=>simp only[fin,h4];rfl
 rw[this];dsimp only at h3 h5;rw[h5,h3];simp[Mem.back,lS,<-hB]
theorem sD{C:iK}{f:FuncId}{g:AF}{fst args cap:List AV}{m:Mem}{v:AV}(hp:C.iX f=none)(hf:C.fs f=some g)(hk:C.bm f=false)
  (hx:κ C.gl (ah C) g.code {env:=(fst++args++cap).map (exp m.ε.length false),loc:=[],mem:= {ε:=m.ε,ζ:=[]}} fun r=>
   (∀i,r.1≠ .exit i)/\(∃bs,r.2.mem= {ε:=m.ε++bs,ζ:=[]})/\∃l,cH r.2 g.results=some l/\aK r.2.mem.ε m.ε.length 8 (cJ l)=v):ah C (.fn (.func f) fst cap) args m=some (v,m):=
 kz hp hf hk rfl hx
def first{α:Type}(f:α->Int):List α->Int
 |[]=>0
 |x::l=>if f x≠0 then f x else first f l
theorem LM{α:Type}{f:α->Int}{l:List α}{i:Nat}(hi:i<l.length)(h:∀j (hj:j<l.length),j<i->f l[j]=0)(τ:f l[i]≠0):first f l=f l[i]:=by
 induction l generalizing i with
 |nil=>simp at hi
 |cons a l ih=>
  cases i with
  |zero=>simp only[lE]at τ⊢;simp[first,τ]
  |succ i=>
   have h0:=h 0 (by simp) (by omega)
   simp only[lE]at h0;simp only[List.getElem_cons_succ]at τ⊢;simp only[first,h0,ne_eq,not_true_eq_false,if_false];exact ih (by simpa using hi) (fun j hj oO=>by have:=h (j+1) (by simp;omega) (by omega);simpa using this) τ
theorem F0{α:Type}{f:α->Int}{l:List α}(h:∀j (hj:j<l.length),f l[j]=0):first f l=0:=by
 induction l with
 |nil=>rfl
 |cons a l ih=>
  have h0:=h 0 (by simp)
  simp only[lE]at h0;simp only[first,h0,ne_eq,not_true_eq_false,if_false];exact ih fun j hj=>by have:=h (j+1) (by simp;omega);simpa using this
theorem Ch{P:Nat->Prop}{i n:Nat}(h:∀j,j<n->j<i->P j)(hi:P i):∀j,j<n->j<i+1->P j:=fun j hj oO=>by
 rcases cX j i with h'|h'
 ·exact h j hj h'
 ·have:j=i:=by omega
  subst this;exact hi
theorem gi{k n:Int}(h:k≠n):(k==n)=false:=by simpa using h
theorem bne_true{k n:Int}(h:k≠n):(k !=n)=true:=by simpa using h
def Row(n:Nat)(bs:List θ)(sz:Nat)(e:TypeId)(c:ξ)(len:Nat):Prop:=((c= .nil\/c= .full)/\len=0)\/∃t,c= .own t/\n<=t/\bs[t]?=some (.front len sz e)
theorem Row.nil{n:Nat}{bs:List θ}{sz:Nat}{e:TypeId}:Row n bs sz e .nil 0:= .inl ⟨.inl rfl,rfl⟩
theorem Row.full{n:Nat}{bs:List θ}{sz:Nat}{e:TypeId}:Row n bs sz e .full 0:= .inl ⟨.inr rfl,rfl⟩
structure Yr (n:Nat) (bs kI:List θ) (e:TypeId):Prop where
 rows:∀eQ e' c' k',e'≠e->Row n bs eQ e' c' k'->Row n kI eQ e' c' k'
 len:bs.length<=kI.length
 od:∀t,(∀k sz,bs[t]?≠some (.front k sz e))->t<bs.length->kI[t]?=bs[t]?
theorem wa{B ext:List θ}{ag:Bool}{sz bytes:Nat}{e:TypeId}{c:ξ}{l:List AV}{v:AV}(h:Row B.length (B++ext) sz e c l.length)(hl:l.all (shaped ag sz)=true)(hv:shaped ag sz v=true)(hn:ν v=v)
  (hs:0<sz) (hb:(l.length+1)*bytes<=140737488355328) (aT:l.length+1<=140737488355328):
  ∃c' ext',(∀T,gA {ε:=B++ext,ζ:=T} ag sz bytes e (.list c l) (.list .full [v])=some (.list c' (l++[v]),{ε:=B++ext',ζ:=T}))/\Row B.length (B++ext') sz e c' (l.length+1)/\Yr B.length (B++ext) (B++ext') e:=by
 rcases h with⟨hc,h0⟩|⟨t,rfl,h1,h2⟩
 ·have:l=[]:=nB h0;subst this;refine⟨.own (B.length+ext.length),ext++[.front 1 sz e],fun T=>?_,.inr ⟨_,rfl,by omega,?_⟩,⟨fun eQ e' c' k' he hr=>?_,by simp,fun t _ ht=>?_⟩⟩
  ·have q1:bytes<=140737488355328:=by simpa using hb
   rcases hc with rfl|rfl<;>simp[gA,hv,hs,Mem.push,Mem.ν,hn,q1]
  ·rw[<-bH];have:B.length+ext.length=(B++ext).length:=by simp
   rw[this];simp
  ·rcases hr with⟨h1,rfl⟩|⟨t,rfl,h1,h2⟩
   ·exact .inl ⟨h1,rfl⟩
   ·refine .inr ⟨t,rfl,h1,?_⟩;rw[<-bH];have ht:t<(B++ext).length:=by
     rcases cX t (B++ext).length with h|h
     ·exact h
     ·rw[hU h]at h2;cases h2
    rw[eo ht];exact h2
  ·rw[<-bH,eo ht]
 ·have ht:t<(B++ext).length:=by
   rcases cX t (B++ext).length with h|h
   ·exact h
   ·rw[hU h]at h2;cases h2
  have lO:(B++ext).set t (.front (l.length+1) sz e)=B++ext.set (t-B.length) (.front (l.length+1) sz e):=by rw[List.set_append,if_neg (by omega)]
  refine⟨.own t,ext.set (t-B.length) (.front (l.length+1) sz e),fun T=>?_,.inr ⟨t,rfl,h1,?_⟩,⟨fun eQ e' c' k' he hr=>?_,by simp,fun t' hf vK=>?_⟩⟩
  ·simp only[gA];simp only[List.all_cons,hv,List.all_nil,Bool.and_self,hl,hs,decide_true,List.length_cons,eI,lj,hb,aT,h2,Bool.true_and,if_true,and_self,aA,List.map_nil,Mem.ν,hn,Mem.put,lO]
  ·rw[<-lO,List.getElem?_set_self ht]
  ·rcases hr with⟨h3,rfl⟩|⟨t',rfl,h3,h4⟩
   ·exact .inl ⟨h3,rfl⟩
   ·refine .inr ⟨t',rfl,h3,?_⟩;have:t≠t':=by
     rintro rfl
     rw[h2]at h4;cases h4;exact he rfl
    rw[<-lO,gR this];exact h4
  ·have:t≠t':=by
    rintro rfl
    exact hf _ _ h2
   rw[<-lO,gR this]
mutual
theorem AV.beq_refl:∀a:AV,AV.beq a a=true
 | .undef| .cU| .iU| .fV| .gx| .gY=>rfl
 | .int _ _| .bool _| .str _| .aj _ _ _| .μ _ _| .sl _ _ _ _ _| .map _=>by simp[AV.beq]
 | .ref l=>by simp only[AV.beq];exact AV.kH l
 | .list _ l=>by simp[AV.beq,AV.kH l]
 | .agg l=>by simp only[AV.beq];exact AV.kH l
 | .aU l=>by simp only[AV.beq];exact AV.kH l
 | .fn _ a b=>by simp[AV.beq,AV.kH a,AV.kH b]
 | .iface _ v=>by simp[AV.beq,AV.beq_refl v]
theorem AV.kH:∀l:List AV,AV.gS l l=true
 |[]=>rfl
 |a::l=>by simp[AV.gS,AV.beq_refl a,AV.kH l]
end
structure Lv (n:Nat) (v w:AV):Prop where
 z:∀bs,aK bs n 8 v=w
 n:ν v=v
structure EZ (ag:Bool) (n sz:Nat) (l ws:List AV):Prop where
 z:∀bs,l.map (aK bs n 8)=ws
 n:l.map ν=l
 s:l.all (shaped ag sz)=true
theorem CN(bs:List θ)(n:Nat)(c:ξ)(l:List AV):aK bs n 8 (.list c l)= .list (c.exp n false) (l.map (aK bs n 8)):=by simp only[aK,fE,qm]
theorem Lv.str(n:Nat)(s:List Nat):Lv n (.str s) (.str s):=⟨fun _=>rfl,rfl⟩
theorem F3(bs:List θ)(n:Nat)(l:List AV):aK bs n 8 (.agg l)= .agg (l.map (aK bs n 8)):=by simp only[aK,fE,qm]
theorem EZ.of{ag:Bool}{n sz:Nat}{α:Type}(f:α->AV)(l:List α)(h:∀x∈l,Lv n (f x) (f x)/\shaped ag sz (f x)=true):EZ ag n sz (l.map f) (l.map f):=by
 refine⟨fun bs=>?_,?_,?_⟩
 ·rw[dc];exact dD fun x hx=>(h x hx).1.z bs
 ·rw[dc];exact dD fun x hx=>(h x hx).1.n
 ·simp only[List.all_map,List.all_eq_true,Function.comp];exact fun x hx=>(h x hx).2
def kM(w:World):Gh:=⟨fun b o=>w.cell? ⟨b,o,none⟩,fun _=>none,fun _ _=>none⟩
theorem afX(w:World)(own:OW)(LC:eX):a_ (kM w) own LC {ε:=[],ζ:=[]} w:=
 ⟨fun _ _ h=>(by cases h),fun _ _ _ h=>(by cases h),fun _ _ h=>(by simp at h),fun _ _ _ h=>h⟩
theorem ag0(w:World):bT w.heap.size (fun _=>none) w:=⟨fun _ _ h=>(by cases h),bA _⟩
section
variable{H:Type}{enc:TypeId×Value->H}{P:Program}{w:World}{base:Nat}{spare:Nat->Bool}{held:Bool}
theorem Yb{t e:TypeId}(hu:P.underlying t=some (.slice e)){A:AV->DataW H->Prop}{sz:Nat}(aJ:P.cellsOf e=sz)(h0:0<sz){fuel:Nat}{cs:List Value}{x:DataW H×List MemPlace}
  (ab0:∀n,n<fuel->∀cs y,DataW.trod enc P w base spare held n e cs=some y->cs.length=sz→
   ∃el,A el y.1/\PW (VR (kM w) bV) el.cells cs/\∀v∈cs,v.oneCell'=true)
  (h:DataW.trod enc P w base spare held fuel t cs=some x):
  ∃v:Value,cs=[v]/\v.oneCell'=true/\((VR (kM w) bV (.list .nil []) v/\x.1= .nil)\/∃(l:List AV) (ds rest:List (DataW H)),VR (kM w) bV (.list .any l) v/\x.1= .slice ds rest/\l.length=ds.length∧
   ∀i (h:i<l.length) (h':i<ds.length),A l[i] ds[i]):=by
 rcases DataW.trod_slice hu h with⟨rfl,rfl⟩|⟨a,len,cap,elems,rest,n,rfl,rfl,rfl,hb,lx,C',Dd,Vc,-,-⟩
 ·exact⟨_,rfl,rfl,.inl ⟨.iS _,rfl⟩⟩
 ·rw[aJ]at Vc;have each:∀i (hi:i<len),∃el cs,A el (elems[i]'(by omega)).1/\PW (VR (kM w) bV) el.cells cs/\(∀v∈cs,v.oneCell'=true)/\cs.length=sz/\∀j,j<sz->w.cell? ((a.add (i*sz)).add j)=cs[j]?:=by intro i hi;have hr:=Vc i hi;rw[dN (by omega)]at hr;obtain⟨ae,gD,ht⟩:=B8.1 hr;obtain⟨-,hl,lZ⟩:=World.cells?_some gD;obtain⟨el,k1,k2,k3⟩:=ab0 n (by omega) ae _ ht hl;exact⟨el,ae,k1,k2,k3,hl,lZ⟩
  by_cases hlen:len=0
  ·subst hlen;exact⟨_,rfl,rfl,.inr ⟨[],_,_,.iw _ _ _ _ (.inl rfl),rfl,by simpa using Dd.symm,fun i h=>absurd h (Nat.not_lt_zero _)⟩⟩
  ·obtain⟨b,o,spot⟩:=a;have ac0:spot=none:=by obtain⟨el,ae,-,-,-,hl,lZ⟩:=each 0 (by omega);have g0:=lZ 0 h0;rw[dN (by omega)]at g0;simpa[Addr.add]using World.cell?_spot g0
   subst ac0;have hex:∃F:Nat->AV×List Value,∀i (hi:i<len),A (F i).1 (elems[i]'(by omega)).1/\PW (VR (kM w) bV) (F i).1.cells (F i).2/\(∀v∈(F i).2,v.oneCell'=true)/\(F i).2.length=sz∧
     ∀j,j<sz->w.cell? ⟨b,o+(i*sz+j),none⟩=(F i).2[j]?:=by
    refine⟨fun i=>if hi:i<len then((each i hi).choose,(each i hi).choose_spec.choose)else(.undef,[]),fun i hi=>?_⟩;simp only[dif_pos hi];obtain⟨k1,k2,k3,k4,k5⟩:=(each i hi).choose_spec.choose_spec;refine⟨k1,k2,k3,k4,fun j hj=>?_⟩;rw[<-k5 j hj,Addr.add_mid,Addr.add_mid,Nat.add_assoc]
   obtain⟨F,hF⟩:=hex;refine⟨_,rfl,rfl,.inr ⟨(qZ len).map fun i=>(F i).1,_,_,?_,rfl,by simp[Dd],fun i hi ab=>?_⟩⟩
   ·refine .list _ .any _ b o sz len cap (fun i j=>(F i).2.getD j Go.undef) (by simp) lx trivial (fun e he=>?_) (fun i hi j hj=>?_) (fun i hi j hj=>?_)
    ·obtain⟨i,hi,rfl⟩:=eT.1 he;have hi:=List.mem_range.1 hi;obtain⟨k1,k2,k3,k4,k5⟩:=hF i hi;rw[k2.1,k4]
    ·obtain⟨k1,k2,k3,k4,k5⟩:=hF i hi;have e1:(F i).2[j]?=some (F i).2[j]:=dN (by omega);refine⟨?_,?_⟩
     ·show w.cell? ⟨b,o+(i*sz+j),none⟩=_;rw[k5 j hj,e1,nC,e1];rfl
     ·rw[nC,e1];exact k3 _ (List.getElem_mem _)
    ·have ab:i<len:=by simpa using hi
     obtain⟨k1,k2,k3,k4,k5⟩:=hF i ab;simp only[iY,J4]at hj⊢;have uh:j<(F i).2.length:=by rw[<-k2.1];exact hj
     have:=k2.2 j hj uh;rw[nC,dN uh];exact this
   ·have jg:i<len:=by simpa using hi
    simp only[iY,J4];exact(hF i jg).1
end
open Go.Lib (strCells strCells_length run_append_grow_string run_append_room_string run_firstCells_string)
def pv(w:World)(e:TypeId)(s:List Nat)(v:Value)(r:Option Nat):Prop:=
 (v= .slice none 0 0/\s=[]/\r=none)\/∃(g cap:Nat) (cur:Array Value),r=some g/\v= .slice (some ⟨g,0,none⟩) s.length cap/\s≠[]∧
  w.heap[g]?=some (.cells cur e (0,0))/\cur.size=cap/\s.length<=cap/\cap<=maxLen/\∀i (h:i<s.length),cur[i]?=some (.int .u8 s[i])
theorem ajJ(s:ByteArray)(i:Nat)(h:i<(s.data.toList.map UInt8.toNat).length):(strCells s)[i]?=some (.int .u8 ((s.data.toList.map UInt8.toNat)[i]:Nat)):=by
 have h':i<s.data.size:=by simpa using h
 simp only[strCells,List.getElem?_map,iY];rw[dN (by simpa using h')];rfl
theorem Zf{P:Program}{w:World}{t u ty e:TypeId}{i:TypeInfo}(ht:P.underlying t=some (.slice e))(hu:P.underlying u=some .string)(hi:P.info? e=some i)(hz:i.zero=some (.int .u8 0))
  (DJ:i.size=1) (HB:i.bytes=1) {v:Value} {r:Option Nat} {q:List Nat} (hv:pv w e q v r) (s:ByteArray) (hlen:q.length+s.size<=140737488355328):
  ∃(v':Value) (w':World) (r':Option Nat),(Builtin.append_ #[t,u] ty #[v,.string s]).run P w= .ok v' w'/\pv w' e (q++s.data.toList.map UInt8.toNat) v' r'/\(r'=r\/r'=some w.heap.size)∧
   w.heap.size<=w'.heap.size/\w'.os=w.os/\w'.tape=w.tape/\w'.output=w.output/\(∀k,k<w.heap.size->r≠some k->w'.heap[k]?=w.heap[k]?):=by
 have jM:∀n od,n<=140737488355328->grownCap w n od e<=maxLen:=fun n od h=>grownCap_le_maxLen w n od e (by have:maxLen=9223372036854775807:=rfl;omega);have jX:(s.data.toList.map UInt8.toNat).length=s.size:=by rw[cF,wu];rfl
 rcases hv with⟨rfl,rfl,rfl⟩|⟨g,cap,cur,rfl,rfl,τ,hg,jf,lx,C',ij⟩
 ·simp only[eI,lj]at hlen;by_cases hm:s.size=0
  ·have hn:s.data.toList.map UInt8.toNat=[]:=nB (by rw[jX];exact hm);refine⟨.slice none 0 0,w,none,?_,.inl ⟨rfl,by rw[hn];rfl,rfl⟩,.inl rfl,bA _,rfl,rfl,rfl,fun _ _ _=>rfl⟩;have hf:=run_firstCells_string (P:=P) w 1 s;rw[hm]at hf;have DI:strCells s=[]:=nB (by rw[strCells_length,hm]);rw[DI]at hf;simp[Builtin.append_,run_underlying ht,run_underlying hu,sizeOf,typeInfo,hi,DJ,Builtin.lenOf,hm,hf]
  ·have hr:=run_append_nil_string (P:=P) w t u ty e i (.int .u8 0) ht hu hi hz s (by omega) (by omega) (by rw[HB];omega);refine⟨_,_,some w.heap.size,hr,.inr ⟨w.heap.size,grownCap w s.size 0 e,_,rfl,?_,?_,qt w.drew _,?_,?_,jM _ _ hlen,fun j hj=>?_⟩,.inr rfl,?_,rfl,rfl,rfl,fun k hk _=>ud w.drew _ hk⟩
   ·simp[jX]
   ·intro h0;rw[bG]at h0;have:=congrArg ki h0;rw[jX]at this;exact hm this
   ·have fT:(Value.int alw 0).cells.size=1:=rfl;have:=grownCap_ge w s.size 0 e;have hds:s.data.size=s.size:=rfl;rw[Array.size_append,Array.size_map,size_zeroCells,fT,hds];omega
   ·simp only[bG,jX];exact grownCap_ge w _ _ e
   ·simp only[bG]at hj⊢;have dJ:j<s.data.size:=by simpa using hj
    rw[Array.getElem?_append_left (by simpa using dJ),Array.getElem?_map,Array.getElem?_eq_getElem dJ];simp
   ·show w.heap.size<=(w.heap.push _).size;simp
 ·have abW:∀j u,(cur.toList.take q.length)[j]?=some u->w.cell? ((⟨g,0,none⟩:Addr).add j)=some u:=by
   intro j u hj;rw[List.getElem?_take]at hj;split at hj
   ·rw[Addr.add_mid];simpa[World.cell?,hg]using hj
   ·cases hj
  have H8:(q++s.data.toList.map UInt8.toNat)≠[]:=by simp[τ]
  have lZ:∀j (hj:j<(q++s.data.toList.map UInt8.toNat).length),(cur.toList.take q.length++strCells s)[j]?=some (.int .u8 ((q++s.data.toList.map UInt8.toNat)[j]:Nat)):=by
   intro j hj;have eh:(cur.toList.take q.length).length=q.length:=by simp;omega
   rcases cX j q.length with h|h
   ·rw[eo (by omega),List.getElem?_take_of_lt h,List.getElem_append_left h,<-ij j h];simp
   ·rw[List.getElem?_append_right (by omega),List.getElem_append_right h,eh];exact ajJ s (j-q.length) (by simp at hj⊢;omega)
  by_cases uq:q.length+s.size<=cap
  ·have hr:=run_append_room_string (P:=P) w t u ty e i ht hu hi DJ g q.length cap cur hg s uq (by omega);refine⟨_,_,some g,hr,.inr ⟨g,cap,_,rfl,by rw[cD,jX],H8,setRow_heap w g cur _ e _ hg,?_,by rw[cD,jX];exact uq,C',fun j hj=>?_⟩,.inl rfl,by simp,rfl,rfl,rfl,
    fun k _ hk=>setRow_other w g k _ (fun e=>hk (by rw[e]))⟩
   ·simp only[List.size_toArray,cD,kE,List.length_drop,wu,strCells_length];omega
   ·have dJ:j<(cur.toList.take q.length++strCells s).length:=by rw[cD,jX]at hj;have eh:cur.toList.length=cur.size:=wu;rw[cD,strCells_length,kE];omega
    have:=lZ j hj;rw[List.getElem?_toArray,eo dJ];exact this
  ·have hr:=run_append_grow_string (P:=P) w t u ty e i (.int .u8 0) ht hu hi hz ⟨g,0,none⟩ q.length cap (cur.toList.take q.length) (by rw[DJ];simp;omega) abW s (by omega) (by omega) (by rw[HB];exact growslice_fits (by omega) (by omega));refine⟨_,_,some w.heap.size,hr,.inr ⟨w.heap.size,grownCap w (q.length+s.size) cap e,_,rfl,by rw[cD,jX],H8,qt w.drew _,?_,?_,jM _ _ (by omega),fun j hj=>?_⟩,.inr rfl,?_,rfl,rfl,rfl,fun k hk _=>ud w.drew _ hk⟩
   ·have fT:(Value.int alw 0).cells.size=1:=rfl;have:=grownCap_ge w (q.length+s.size) cap e;simp[size_zeroCells,fT,strCells_length];omega
   ·rw[cD,jX];exact grownCap_ge w _ _ e
   ·have dJ:j<(cur.toList.take q.length++strCells s).length:=by rw[cD,jX]at hj;have eh:cur.toList.length=cur.size:=wu;rw[cD,strCells_length,kE];omega
    have:=lZ j hj;rw[<-this];simp only[<-Array.getElem?_toList,Array.toList_append];rw[eo (by simpa using dJ)]
   ·show w.heap.size<=(w.heap.push _).size;simp
section
variable{P:Program}{gl:Nat->AV}{base:Nat}{LC:eX}{g:Gh}{own:OW}{mem:Mem}{w w':World}
structure BR (g:Gh) (own:OW) (w:World) (id:Nat) (T e:TypeId) (s:List Nat) (b:Nat) (p v:Value) (r:Option Nat):Prop where
 mb:g.mb id=some b
 owned:own b=some (.m id)
 im:∀o,g.im b o=none
 heap:w.heap[b]?=some (.cells #[p,v] T (0,0))
 ptr:p= .pointer none\/p= .pointer (some ⟨b,0,none⟩)
 bytes:∀x∈s,x<256
 row:pv w e s v r
 qV:∀k,r=some k->own k=some (.m id)/\k≠b/\∀o,g.im k o=none
theorem QH{id:Nat}{T e:TypeId}{s:List Nat}(h:tF g own LC w id (.nH T e s)):∃b p v r,BR g own w id T e s b p v r:=by
 obtain⟨b,h1,h2,h3,p,v,h4,h5,h6,⟨rfl,rfl⟩|⟨r,cap,cur,q1,q2,q3,q4,q5,q6,q7,q8,q9,nr⟩⟩:=h
 ·exact⟨b,p,_,none,h1,h2,h3,h4,h5,h6,.inl ⟨rfl,rfl,rfl⟩,fun k hk=>(by cases hk)⟩
 ·exact⟨b,p,v,some r,h1,h2,h3,h4,h5,h6,.inr ⟨r,cap,cur,rfl,q1,q5,q6,q7,q8,q9,nr⟩,fun k hk=>(by cases hk;exact⟨q2,q3,q4⟩)⟩
theorem Zi{id:Nat}{T e:TypeId}{s:List Nat}{b:Nat}{p v:Value}{r:Option Nat}(h:BR g own w id T e s b p v r):tF g own LC w id (.nH T e s):=by
 refine⟨b,h.mb,h.owned,h.im,p,v,h.heap,h.ptr,h.bytes,?_⟩;rcases h.row with⟨h1,h2,h3⟩|⟨r',cap,cur,hr,q1,q5,q6,q7,q8,q9,nr⟩
 ·exact .inl ⟨h1,h2⟩
 ·obtain⟨k1,k2,k3⟩:=h.qV r' hr;exact .inr ⟨r',cap,cur,q1,k1,k2,k3,q5,q6,q7,q8,q9,nr⟩
theorem Zh{id:Nat}{T e:TypeId}{s:List Nat}{b:Nat}{p v:Value}{r:Option Nat}(h:BR g own w id T e s b p v r):b<w.heap.size:=(zX.1 h.heap).1
theorem Zj(hm:a_ g own LC mem w)(ho:bT base own w)(eE:mP g gl){id:Nat}{T e:TypeId}{s s':List Nat}{b:Nat}{p v p' v':Value}{r r':Option Nat}(hid:id<mem.ε.length)
  (hb:BR g own w id T e s b p v r) (aJ:w.heap.size<=w'.heap.size) (Nz:w'.os=w.os) (NS:w'.tape=w.tape) (NA:w'.output=w.output)
  (hk:∀k,k<w.heap.size->k≠b->r≠some k->w'.heap[k]?=w.heap[k]?)
  (hh:w'.heap[b]?=some (.cells #[p',v'] T (0,0))) (hp:p'= .pointer none\/p'= .pointer (some ⟨b,0,none⟩)) (hs:∀x∈s',x<256) (iu:pv w' e s' v' r')
  (hr:r'=r\/∃k,r'=some k/\w.heap.size<=k) {rv:AV} {x:Value} (hv:VR g bV rv x):lT base LC gl g own w rv (mem.put id (.nH T e s') true) x w':=by
 have AW:=hb.owned;have hold:∀k,k<w.heap.size->r'=some k->r=some k:=by
  intro k dh NM;rcases hr with h|⟨k0,h,du⟩
  ·rw[<-h];exact NM
  ·rw[h]at NM;cases NM;omega
 let aE:OW:=fun k=>if r'=some k then some (.m id)else er own k;have eO:∀k,r'=some k->k<w'.heap.size:=by
  intro k dh;rcases iu with⟨_,_,h3⟩|⟨g1,cap,cur,h1,_,_,h4,_⟩
  ·rw[h3]at dh;cases dh
  ·rw[h1]at dh;cases dh;exact(zX.1 h4).1
 have τ:∀k mI,own k=some (.m mI)->mI≠id->k<w.heap.size/\k≠b/\r≠some k/\r'≠some k:=by
  intro k mI dh τ;have χ:=(ho.ge k _ dh).2;have h2:r≠some k:=fun h=>by have:=(hb.qV k h).1;rw[this]at dh;cases dh;exact τ rfl
  exact⟨χ,fun h=>(by rw[h,AW]at dh;cases dh;exact τ rfl),h2,fun h=>h2 (hold k χ h)⟩
 have M9:∀k o y,g.im k o=some y->k≠b/\r≠some k:=fun k o y hy=>⟨fun h=>(by rw[h,hb.im]at hy;cases hy),fun h=>(by rw[(hb.qV k h).2.2]at hy;cases hy)⟩;refine⟨g,aE,⟨g.eP,aJ,Nz,NS,NA,fun k χ hn=>?_,fun k χ hn=>?_,fun _ _ _ _=>rfl⟩,⟨fun i c hc=>?_,fun t n y hy=>?_,fun i blk hi=>?_,fun k o y hy=>?_⟩,hv,⟨fun k o Dm=>?_,uZ ho.base aJ⟩,fun k d hd=>?_,eE⟩
 ·refine hk k χ (fun h=>?_) (fun h=>?_)
  ·rw[h,v7 AW]at hn;cases hn
  ·rw[v7 (hb.qV k h).1]at hn;cases hn
 ·simp only[aE];split
  ·rename_i h;rw[v7 (hb.qV k (hold k χ h)).1]at hn;cases hn
  ·exact hn
 ·simp only[Mem.put,mS];exact hm.ju i c hc
 ·simp only[Mem.put,mS];exact hm.nu t n y hy
 ·simp only[Mem.put,wx]at hi;split at hi
  ·rename_i yT;subst yT;simp only[bc]at hi;subst hi;refine Zi ⟨hb.mb,?_,hb.im,hh,hp,hs,iu,fun k dh=>⟨by simp only[aE];rw[if_pos dh],?_,fun o=>?_⟩⟩
   ·simp only[aE];split
    ·rfl
    ·exact v7 AW
   ·intro h;have χ:=Zh hb;exact(hb.qV k (hold k (by omega) dh)).2.1 h
   ·cases hx:g.im k o with
    |none=>rfl
    |some y=>
     have h1:=wH (hm.im k o y hx)
     have:=(hb.qV k (hold k h1 dh)).2.2 o;rw[this]at hx;cases hx
  ·rename_i yT;refine(hm.blk i blk hi).bm g.eP (fun k dh=>?_) (fun _ h=>h) (fun h=>h);obtain⟨k1,k2,k3,k4⟩:=τ k i dh (fun h=>yT h.symm);exact⟨by simp only[aE];rw[if_neg k4,v7 dh,dh],hk k k1 k2 k3,fun _=>rfl⟩
 ·have hc:=hm.im k o y hy;obtain⟨k1,k2⟩:=M9 k o y hy;rw[qj (hk k (wH hc) k1 k2)];exact hc
 ·simp only[aE]at Dm;split at Dm
  ·rename_i h;refine⟨?_,eO k h⟩;rcases cX k w.heap.size with hl|hl
   ·exact(ho.ge k _ (hb.qV k (hold k hl h)).1).1
   ·exact uZ ho.base hl
  ·have:=ho.ge k o (uI Dm).1;exact⟨this.1,kj this.2 aJ⟩
 ·simp only[aE]at hd;split at hd
  ·cases hd
  ·obtain⟨_,i,h⟩:=uI hd;cases h
theorem Zg(hm:a_ g own LC mem w)(ho:bT base own w)(eE:mP g gl){id:Nat}{T e:TypeId}{s:List Nat}{b:Nat}{p v:Value}{r:Option Nat}
  (hb:BR g own w id T e s b p v r) (aJ:w.heap.size<=w'.heap.size) (Nz:w'.os=w.os) (NS:w'.tape=w.tape) (NA:w'.output=w.output)
  (hk:∀k,k<w.heap.size->r≠some k->w'.heap[k]?=w.heap[k]?) {rv:AV} {x:Value} (hv:VR g bV rv x):lT base LC gl g own w rv (mem.put id .dead true) x w':=by
 have M9:∀k o y,g.im k o=some y->r≠some k:=fun k o y hy h=>by rw[(hb.qV k h).2.2]at hy;cases hy
 refine⟨g,er own,⟨g.eP,aJ,Nz,NS,NA,fun k χ hn=>?_,fun k χ hn=>by simpa[er]using hn,fun _ _ _ _=>rfl⟩,⟨fun i c hc=>?_,fun t n y hy=>?_,fun i blk hi=>?_,fun k o y hy=>?_⟩,hv,⟨fun k o Dm=>?_,uZ ho.base aJ⟩,fun k d hd=>?_,eE⟩
 ·refine hk k χ (fun h=>?_);rw[v7 (hb.qV k h).1]at hn;cases hn
 ·simp only[Mem.put,mS];exact hm.ju i c hc
 ·simp only[Mem.put,mS];exact hm.nu t n y hy
 ·simp only[Mem.put,wx]at hi;split at hi
  ·split at hi
   ·cases hi;trivial
   ·cases hi
  ·rename_i yT;refine(hm.blk i blk hi).bm g.eP (fun k dh=>?_) (fun _ h=>h) (fun h=>h);refine⟨by rw[v7 dh,dh],hk k (ho.ge k _ dh).2 (fun h=>?_),fun _=>rfl⟩;have:=(hb.qV k h).1;rw[dh]at this;cases this;exact yT rfl
 ·have hc:=hm.im k o y hy;rw[qj (hk k (wH hc) (M9 k o y hy))];exact hc
 ·have:=ho.ge k o (uI Dm).1;exact⟨this.1,kj this.2 aJ⟩
 ·obtain⟨_,i,h⟩:=uI hd;cases h
end
def fp(n:Nat):List Nat:=if n<10 then[48+n]else[48+n/10,48+n % 10]
def xM:Prim:=fun args m=>match args with
 |[.int .i64 n]=>if 0<=n/\n<100 then some (.str (fp n.toNat),m)else none
 |_=>none
def zu:Nat->List Nat->Option Nat
 |acc,[]=>some acc
 |acc,b::r=>if 48<=b/\b<=57 then zu (acc*10+(b-48)) r else none
def cj(b:Nat):Bool:=decide (48<=b)&&decide (b<=57)
def uJ(te:TypeId):Prim:=fun args m=>match args with
 |[.str s]=>match s with
  |[]=>some (.aU [.int .i64 0,.iface te .cU],m)
  |b::r=>if r.length<=17/\cj b=true then(zu 0 (b::r)).map fun(n:Nat)=>(.aU [.int .i64 (n:Int),.gx],m)else none
 |_=>none
def BK:List AV->Option (List (List Nat))
 |[]=>some []
 | .str s::l=>(BK l).map (s::·)
 |_=>none
def l9(sep:List Nat):List (List Nat)->List Nat
 |[]=>[]
 |[x]=>x
 |x::l=>x++sep++l9 sep l
def xN:Prim:=fun args m=>match args with
 |[.list _ [],.str _]=>some (.str [],m)
 |[.list _ (x::l),.str sep]=>match BK (x::l)with
  |some l=>if(l9 sep l).length<=140737488355328/\l.length<=140737488355328 then some (.str (l9 sep l),m)else none
  |none=>none
 |_=>none
def jA(c:Nat):List Nat->Nat->Option Nat
 |[],_=>none
 |b::r,i=>if b=c then some i else jA c r (i+1)
def xL:Prim:=fun args m=>match args with
 |[.str s,.int .u8 c]=>if 0<=c/\c<256 then some (.int .i64 (match jA c.toNat s 0 with
   |some i=>(i:Int)
   |none=> -1),m)else none
 |_=>none
def xK:Prim:=fun args m=>match args with
 |[.map id]=>match m.ε[id]? with
  |some (.map es)=>some (.map m.ε.length,m.push (.map es))
  |_=>none
 |_=>none
def xP(T e:TypeId):Prim:=fun args m=>match args with
 |[.μ id 0,.str s]=>match m.ε[id]? with
  |some (.nH T' e' t)=>if T'=T/\e'=e/\t.length+s.length<=140737488355328 then some (.aU [.int .i64 s.length,.gx],m.put id (.nH T e (t++s)) true)else none
  |_=>none
 |_=>none
def xO(T e:TypeId):Prim:=fun args m=>match args with
 |[.μ id 0]=>match m.ε[id]? with
  |some (.nH T' e' t)=>if T'=T/\e'=e then some (.str t,m.put id .dead true)else none
  |_=>none
 |_=>none
def uK(v:AV):Prim:=fun args m=>match args with
 |[]=>some (v,m)
 |_=>none
section
variable{P:Program}{gl:Nat->AV}{base:Nat}{LC:eX}{f:FuncId}{fn:Func}
theorem Jc(hf:P.funcs[f]?=some fn)(hb:fn.body.isNone=false)(hn:(fn.name== "runtime.NumGoroutine")=false){p:Prim}
  (h:∀(g:Gh) (own:OW) (mem:Mem) (w:World) (args:List AV) (r:AV) (m':Mem) (bN:Array Value),a_ g own LC mem w->bT base own w->mP g gl->PW (VR g bV) args bN.toList->p args mem=some (r,m')→
   m'=mem/\Calls P f bN w fun e w'=>∃x,e= .returned x/\VR g bV r x/\Below w.heap.size w w'):mr Fence.wide P base LC gl f p:=by
 intro n g own mem w args r m' bN hm ho eE cM hp;obtain⟨rfl,hc⟩:=h g own mem w args r m' bN hm ho eE cM hp;refine FA hf hb hn (callsIn_wide.2 (hc.mono fun e w' he=>?_));obtain⟨x,rfl,hx,hB⟩:=he;exact⟨x,rfl,ZP hm ho eE hB hx⟩
theorem Ya{g:Gh}{lb:LB}{k:IntKind}{n:Int}{x:Value}(h:VR g lb (.int k n) x):x= .int k n:=by cases h;rfl
theorem zU{g:Gh}{lb:LB}{s:List Nat}{x:Value}(h:VR g lb (.str s) x):∃b:ByteArray,x= .string b/\b.data.toList.map UInt8.toNat=s:=by cases h;exact⟨_,rfl,by assumption⟩
theorem X_{g:Gh}{lb:LB}{s:List Nat}{l:List UInt8}(h:l.map UInt8.toNat=s):VR g lb (.str s) (.string ⟨l.toArray⟩):= .str _ _ _ (by simpa using h)
theorem aar(i:Nat)(hi:i<100):(Lib.decDigits i).map UInt8.toNat=fp i:=by
 have:∀j:Fin 100,(Lib.decDigits j.val).map UInt8.toNat=fp j.val:=by decide+kernel
 exact this ⟨i,hi⟩
theorem agf(hf:P.funcs[f]?=some fn)(hb:fn.body.isNone=false)(hn:(fn.name== "runtime.NumGoroutine")=false)
  (h:∀(i:Nat),i<100->∀w,Calls P f #[.int .i64 i] w fun e w'=>e= .returned (.string ⟨(Lib.decDigits i).toArray⟩)/\w'=w):mr Fence.wide P base LC gl f xM:=by
 refine Jc hf hb hn fun g own mem w args r m' bN hm ho eE cM hp=>?_;unfold xM at hp;split at hp
 ·rename_i n;split at hp
  ·rename_i hr;simp only[bc,az]at hp;obtain⟨rfl,rfl⟩:=hp;obtain⟨x,rfl,hx⟩:=Em cM;cases Ya hx;obtain⟨i,rfl⟩:=Int.eq_ofNat_of_zero_le hr.1;have hi:i<100:=by omega
   refine⟨rfl,(h i hi w).mono fun e w' he=>?_⟩;obtain⟨rfl,rfl⟩:=he;exact⟨_,rfl,X_ (by simpa using aar i hi),Below.refl _ _⟩
  ·cases hp
 ·cases hp
theorem af4(l:List UInt8)(acc:Nat):zu acc (l.map UInt8.toNat)=Lib.decFrom acc l:=by
 induction l generalizing acc with
 |nil=>rfl
 |cons b r ih=>
  simp only[aA,zu,Lib.decFrom,Lib.digitVal]
  by_cases h:48<=b.toNat/\b.toNat<=57
  ·rw[if_pos h,if_pos h];exact ih _
  ·rw[if_neg h,if_neg h]
theorem agc(te:TypeId)(hf:P.funcs[f]?=some fn)(hb:fn.body.isNone=false)(hn:(fn.name== "runtime.NumGoroutine")=false)
  (h:∀(s:ByteArray) (n:Int),s.size<=18->Lib.atoi s.data.toList=some n->∀w,Calls P f #[.string s] w fun e w'=>e= .returned (.tuple #[.int .i64 n,.nilIface])/\Below w.heap.size w w')
  (h0:∀w g,mP g gl->(∀b o x,g.im b o=some x->w.cell? ⟨b,o,none⟩=some x)->Calls P f #[.string .empty] w fun e w'=>∃N,e= .returned (.tuple #[.int .i64 0,.iface te (.pointer (some ⟨N,0,none⟩))])/\Below w.heap.size w w'):
  mr Fence.wide P base LC gl f (uJ te):=by
 refine Jc hf hb hn fun g own mem w args r m' bN hm ho eE cM hp=>?_;unfold uJ at hp;split at hp
 ·rename_i s;split at hp
  ·simp only[bc,az]at hp;obtain⟨rfl,rfl⟩:=hp;obtain⟨x,rfl,hx⟩:=Em cM;obtain⟨bs,rfl,fG⟩:=zU hx;have he:bs= .empty:=by obtain⟨⟨l⟩⟩:=bs;simp at fG;subst fG;rfl
   subst he;refine⟨rfl,(h0 w g eE hm.im).mono fun e w' he=>?_⟩;obtain⟨N,rfl,hB⟩:=he;refine⟨_,rfl,.aU _ _ _ rfl (fun i hi ab=>?_),hB⟩
   match i,hi with
   |0,_=>exact .int _ _ _
   |1,_=>exact .iface _ _ _ _ (.cU _ _ rfl)
  ·rename_i b r';split at hp
   ·rename_i hc;simp only[bE,az]at hp;obtain⟨n,gF,rfl,rfl⟩:=hp;obtain⟨x,rfl,hx⟩:=Em cM;obtain⟨bs,rfl,fG⟩:=zU hx;have aJ:bs.size=r'.length+1:=by have:=congrArg ki fG;simpa using this
    rw[<-fG,af4]at gF;have ij:Lib.atoi bs.data.toList=some (n:Int):=by
     cases hl:bs.data.toList with
     |nil=>rw[hl]at fG;cases fG
     |cons u r2=>
      rw[hl]at fG gF
      simp only[aA,List.cons.injEq]at fG;have hu:48<=u.toNat/\u.toNat<=57:=by have:=hc.2;simp only[cj,Bool.and_eq_true,decide_eq_true_eq]at this;rw[fG.1];exact this
      have e1:(u==45)=false:=by rw[beq_eq_false_iff_ne];rintro rfl;exact absurd hu.1 (by decide)
      have e2:(u==43)=false:=by rw[beq_eq_false_iff_ne];rintro rfl;exact absurd hu.1 (by decide)
      simp only[Lib.atoi,e1,e2,Bool.false_eq_true,if_false,Lib.decNat,List.isEmpty_cons,gF,qh]
    refine⟨rfl,(h bs n (by omega) ij w).mono fun e w' he=>?_⟩;obtain⟨rfl,hB⟩:=he;refine⟨_,rfl,.aU _ _ _ rfl (fun i hi ab=>?_),hB⟩
    match i,hi with
    |0,_=>exact .int _ _ _
    |1,_=>exact .gx _
   ·cases hp
 ·cases hp
theorem ac_(c:Nat)(l:List Nat)(i:Nat):jA c l i=(jA c l 0).map (·+i):=by
 induction l generalizing i with
 |nil=>rfl
 |cons b r ih=>
  simp only[jA]
  split
  ·simp
  ·rw[ih (i+1),ih (0+1)];cases jA c r 0<;>simp[Nat.add_comm,Nat.add_left_comm]
theorem ac9(c:UInt8)(l:List UInt8):(match jA c.toNat (l.map UInt8.toNat) 0 with
  |some i=>(i:Int)
  |none=> -1)=Lib.indexByte l c:=by
 induction l with
 |nil=>rfl
 |cons b r ih=>
  simp only[aA,jA,Lib.indexByte]
  by_cases h:b=c
  ·subst h;simp
  ·have h1:¬b.toNat=c.toNat:=fun e=>h (UInt8.toNat_inj.1 e);have h2:(b==c)=false:=by simpa using h
   rw[if_neg h1,ac_,h2];cases hx:jA c.toNat (r.map UInt8.toNat) 0 with
   |none=>rw[hx]at ih;simp only at ih;simp[<-ih]
   |some k=>
    rw[hx]at ih
    simp only at ih;have:((k:Int)== -1)=false:=by rw[beq_eq_false_iff_ne];omega
    simp[<-ih,this]
theorem age(hf:P.funcs[f]?=some fn)(hb:fn.body.isNone=false)(hn:(fn.name== "runtime.NumGoroutine")=false)
  (h:∀(s:ByteArray) (c:Int) (w:World),Calls P f #[.string s,.int .u8 c] w fun e w'=>e= .returned (.int .i64 (Lib.indexByte s.data.toList c.toNat.toUInt8))/\w'=w):mr Fence.wide P base LC gl f xL:=by
 refine Jc hf hb hn fun g own mem w args r m' bN hm ho eE cM hp=>?_;unfold xL at hp;split at hp
 ·rename_i s c;split at hp
  ·rename_i hc;simp only[bc,az]at hp;obtain⟨rfl,rfl⟩:=hp;obtain⟨x,y,rfl,hx,hy⟩:=Je cM;obtain⟨bs,rfl,rfl⟩:=zU hx;cases Ya hy;refine⟨rfl,(h bs c w).mono fun e w' he=>?_⟩;obtain⟨rfl,rfl⟩:=he;refine⟨_,rfl,?_,Below.refl _ _⟩;have mD:c.toNat=(c.toNat.toUInt8).toNat:=by rw[Nat.toUInt8_eq,UInt8.toNat_ofNat'];omega
   have:=ac9 c.toNat.toUInt8 bs.data.toList;rw[<-mD]at this;rw[this];exact .int _ _ _
  ·cases hp
 ·cases hp
theorem ajL{l:List AV}{ss:List (List Nat)}(h:BK l=some ss):l=ss.map .str:=by
 induction l generalizing ss with
 |nil=>cases h;rfl
 |cons a l ih=>
  cases a<;>simp only[BK]at h<;>first|(cases h;done)|skip
  simp only[bE]at h;obtain⟨t,ht,rfl⟩:=h;simp[ih ht]
theorem ado(sep:List UInt8)(l:List (List UInt8)):l9 (sep.map UInt8.toNat) (l.map (·.map UInt8.toNat))=(Lib.join l sep).map UInt8.toNat:=by
 induction l with
 |nil=>rfl
 |cons x l ih=>
  cases l with
  |nil=>simp[l9,Lib.join_one]
  |cons y l=>
   rw[Lib.join_cons]
   rw[Lib.join_cons]at ih;simp only[aA,l9]at ih⊢;rw[ih];simp[Lib.joinTail]
theorem agh(hf:P.funcs[f]?=some fn)(hb:fn.body.isNone=false)(hn:(fn.name== "runtime.NumGoroutine")=false)
  (h0:∀(a:Option Addr) (c:Nat) (sep:ByteArray) (w:World),Calls P f #[.slice a 0 c,.string sep] w fun e w'=>e= .returned (.string ⟨#[]⟩)/\w'=w)
  (h:∀(bk o c:Nat) (xs:List ByteArray) (sep:ByteArray) (w:World),(∀(j:Nat) x,xs[j]?=some x->w.cell? ⟨bk,o+j,none⟩=some (.string x))->bk<w.heap.size->xs.length<=140737488355328->xs.length<=c→
   (Lib.join (xs.map (·.data.toList)) sep.data.toList).length<=140737488355328→
   Calls P f #[.slice (some ⟨bk,o,none⟩) xs.length c,.string sep] w fun e w'=>e= .returned (.string ⟨(Lib.join (xs.map (·.data.toList)) sep.data.toList).toArray⟩)/\Below w.heap.size w w'):mr Fence.wide P base LC gl f xN:=by
 refine Jc hf hb hn fun g own mem w args r m' bN hm ho eE cM hp=>?_;unfold xN at hp;split at hp
 ·rename_i c sep;simp only[bc,az]at hp;obtain⟨rfl,rfl⟩:=hp;obtain⟨xv,yv,rfl,hx,hy⟩:=Je cM;obtain⟨sb,rfl,rfl⟩:=zU hy;obtain⟨a,cap,rfl⟩:∃a cap,xv= .slice a 0 cap:=by
   cases hx with
   |iS=>exact⟨_,_,rfl⟩
   |iw _ _ a cap=>exact⟨_,_,rfl⟩
   |list _ _ _ b o sz n cap xs hn=>simp at hn;subst hn;exact⟨_,_,rfl⟩
  refine⟨rfl,(h0 a cap sb w).mono fun e w' he=>?_⟩;obtain⟨rfl,rfl⟩:=he;exact⟨_,rfl,.str _ _ _ rfl,⟨rfl,rfl,rfl,bA _,fun _ _=>rfl⟩⟩
 ·rename_i c x l sep;split at hp
  ·rename_i ss hss;split at hp
   ·rename_i hlen;simp only[bc,az]at hp;obtain⟨rfl,rfl⟩:=hp;have jX:=ajL hss;obtain⟨xv,yv,rfl,hx,hy⟩:=Je cM;obtain⟨sb,rfl,rfl⟩:=zU hy;rw[jX]at hx;have τ:ss≠[]:=by rintro rfl;cases jX
    obtain⟨bk,o,cap,vs,rfl,dP,-,dI,cC⟩:=hx.flat (sz:=1) (fun e he=>by obtain⟨s,_,rfl⟩:=eT.1 he;rfl) (by simpa using τ);have Ig:vs.length=ss.length:=by have:=dI.1;simpa using this
    have qE:∀j,j<ss.length->∃bs:ByteArray,vs[j]?=some (.string bs)/\bs.data.toList.map UInt8.toNat=ss.getD j []:=by
     intro j hj;have e0:(ss.map AV.str)[j]'(by simpa using hj)= .str ss[j]:=by simp
     have hv:=dI.2.2.2 j (by simpa using hj) 0 (by rw[e0];simp[AV.cells]) (by omega);simp only[e0,AV.cells,lE,Nat.mul_one,Nat.add_zero]at hv;obtain⟨bs,h1,h2⟩:=zU hv;refine⟨bs,?_,?_⟩
     ·rw[dN (by omega),h1]
     ·rw[h2,nC,dN hj];rfl
    let xs:List ByteArray:=(qZ ss.length).map fun j=>match(vs[j]?:Option Value)with
     |some (Value.string b)=>b
     |_=> .empty
    have rT:xs.length=ss.length:=by simp[xs]
    have NY:∀j (hj:j<ss.length),∃bs:ByteArray,xs[j]?=some bs/\vs[j]?=some (.string bs)/\bs.data.toList.map UInt8.toNat=ss[j]:=by intro j hj;obtain⟨bs,h1,h2⟩:=qE j hj;refine⟨bs,?_,h1,by rw[h2,nC,dN hj];rfl⟩;simp[xs,hj,h1]
    have yW:(xs.map (·.data.toList)).map (·.map UInt8.toNat)=ss:=by
     apply List.ext_getElem (by simp[rT]);intro j h1 h2;obtain⟨bs,k1,k2,k3⟩:=NY j h2;have hjx:j<xs.length:=by omega
     rw[dN hjx]at k1;cases k1;simpa using k3
    have hj:=ado sb.data.toList (xs.map (·.data.toList));rw[yW]at hj;rw[hj]at hlen⊢;simp only[cF]at hlen;have hle:ss.length<=cap:=by simpa using dP
    have lZ:∀(j:Nat) x,xs[j]?=some x->w.cell? ⟨bk,o+j,none⟩=some (.string x):=by
     intro j y l8;have qy:j<ss.length:=by rw[<-rT];exact(fu.1 l8).1
     obtain⟨bs,k1,k2,-⟩:=NY j qy;rw[k1]at l8;cases l8;exact hm.im _ _ _ (cC j _ k2)
    have h0:0<ss.length:=List.length_pos_iff.2 τ;have MF:bk<w.heap.size:=by obtain⟨bs,k1,-,-⟩:=NY 0 h0;exact wH (lZ 0 bs k1)
    have hc:=h bk o cap xs sb w lZ MF (by omega) (by omega) hlen.1;rw[rT]at hc;rw[cF];refine⟨rfl,hc.mono fun e w' he=>?_⟩;obtain⟨rfl,hB⟩:=he;exact⟨_,rfl,X_ rfl,hB⟩
   ·cases hp
  ·cases hp
 ·cases hp
theorem Z7{g:Gh}{own:OW}{mem:Mem}{w:World}(hm:a_ g own LC mem w)(ho:bT base own w)(eE:mP g gl){id:Nat}{es:List (AV×AV)}(hb:mem.ε[id]?=some (.map es)){b:Nat}(jx:g.mb id=some b):
  ∃a clock,w.heap[b]?=some (.map a clock)/\lT base LC gl g own w (.map mem.ε.length) (mem.push (.map es)) (.map (some w.heap.size)) (w.alloc (.map a clock)):=by
 obtain⟨b',h1,h2,h3,a,clock,h4,h5,h6,h7⟩:=hm.blk id _ hb;rw[jx]at h1;cases h1;refine⟨a,clock,h4,?_⟩;have lM:=hm.er;have rN:=ho.er;have cC:∀o,g.im w.heap.size o=none:=xB hm;let g':Gh:= {g with mb:=fun id=>if id=mem.ε.length then some w.heap.size else g.mb id};have di:g.sub g':=⟨fun _ _ _ h=>h,fun id b hb=>by
  have:=hm.ju id b hb
  simp only[g'];rw[if_neg (by omega)];exact hb,fun _ _ _ h=>h⟩
 have Ω:=eu.alloc g (er own) w (.map a clock) (some (.m mem.ε.length));refine⟨g',_,⟨di,Ω.size,Ω.os,Ω.tape,Ω.output,Ω.bm,Ω.jH,Ω.im⟩,?_,.map _ _ _ (by simp[g']),rN.alloc _ _,fun b d hb=>?_,eE.mono di⟩
 ·refine lM.push (lM.alloc rN _ _) _ _ (fun id b hb=>?_) (fun id hid=>?_) ?_
  ·split at hb
   ·exact .inr (by assumption)
   ·exact .inl hb
  ·exact if_neg (by omega)
  ·exact⟨w.heap.size,by simp,by simp[gP],cC,a,clock,qt w _,h5,fun i hi ab=>⟨(h6 i hi ab).1.sub di,(h6 i hi ab).2.sub di⟩,h7⟩
 ·unfold gP at hb;split at hb
  ·cases hb
  ·obtain⟨_,i,h⟩:=uI hb;cases h
theorem agd(hf:P.funcs[f]?=some fn)(hb:fn.body.isNone=false)(hn:(fn.name== "runtime.NumGoroutine")=false)
  (h:∀(b:Nat) (es:Array MapEntry) (clock:Nat) (w:World),w.heap[b]?=some (.map es clock)→
   Calls P f #[.map (some b)] w fun e w'=>e= .returned (.map (some w.heap.size))/\w'=w.alloc (.map es clock)):mr Fence.wide P base LC gl f xK:=by
 intro n g own mem w args r m' bN hm ho eE cM hp;unfold xK at hp;split at hp
 ·rename_i id;split at hp
  ·rename_i es gN;simp only[bc,az]at hp;obtain⟨rfl,rfl⟩:=hp;obtain⟨x,rfl,hx⟩:=Em cM;cases hx with
   |map _ _ b jx=>
    obtain⟨a,clock,h1,h2⟩:=Z7 hm ho eE gN jx
    refine FA hf hb hn (callsIn_wide.2 ((h b a clock w h1).mono fun e w' he=>?_));obtain⟨rfl,rfl⟩:=he;exact⟨_,rfl,h2⟩
  ·cases hp
 ·cases hp
theorem ag_:∀args m r m',xK args m=some (r,m')->KM m m':=by
 intro args m r m' hp;unfold xK at hp;split at hp
 ·split at hp
  ·simp only[bc,az]at hp;obtain⟨rfl,rfl⟩:=hp;exact KM.push _ _
  ·cases hp
 ·cases hp
def P_(w w':World)(b:Nat)(r:Option Nat):Prop:=
 w.heap.size<=w'.heap.size/\w'.os=w.os/\w'.tape=w.tape/\w'.output=w.output/\∀k,k<w.heap.size->k≠b->r≠some k->w'.heap[k]?=w.heap[k]?
theorem agj{T e:TypeId}(hf:P.funcs[f]?=some fn)(hb:fn.body.isNone=false)(hn:(fn.name== "runtime.NumGoroutine")=false)
  (h:∀(b:Nat) (s:ByteArray) (p v:Value) (r:Option Nat) (q:List Nat) (w:World),w.heap[b]?=some (.cells #[p,v] T (0,0))->(p= .pointer none\/p= .pointer (some ⟨b,0,none⟩))->pv w e q v r->r≠some b→
   q.length+s.size<=140737488355328→
   Calls P f #[.pointer (some ⟨b,0,none⟩),.string s] w fun en w'=>en= .returned (.tuple #[.int .i64 s.size,.nilIface])/\P_ w w' b r/\∃p' v' r',w'.heap[b]?=some (.cells #[p',v'] T (0,0))∧
    (p'= .pointer none\/p'= .pointer (some ⟨b,0,none⟩))/\pv w' e (q++s.data.toList.map UInt8.toNat) v' r'/\(r'=r\/∃k,r'=some k/\w.heap.size<=k)):
  mr Fence.wide P base LC gl f (xP T e):=by
 intro n g own mem w args r m' bN hm ho eE cM hp;unfold xP at hp;split at hp
 ·rename_i id s;split at hp
  ·rename_i T' e' t gN;split at hp
   ·rename_i hc;obtain⟨rfl,rfl,hlen⟩:=hc;simp only[bc,az]at hp;obtain⟨rfl,rfl⟩:=hp;obtain⟨x,y,rfl,hx,hy⟩:=Je cM;obtain⟨bs,rfl,rfl⟩:=zU hy;have ep:(bs.data.toList.map UInt8.toNat).length=bs.size:=by rw[cF,wu];rfl
    cases hx with
    |μ _ _ _ b jx=>
     obtain⟨b',p,v,Ez,pL⟩:=QH (hm.blk id _ gN)
     have:=pL.mb;rw[jx]at this;cases this;have xq:Ez≠some b:=fun he=>(pL.qV b he).2.1 rfl;refine FA hf hb hn (callsIn_wide.2 ((h b bs p v Ez t w pL.heap pL.ptr pL.row xq (by omega)).mono fun en w' he=>?_));obtain⟨rfl,⟨k1,k2,k3,k4,k5⟩,p',v',r',k6,k7,k8,k9⟩:=he;refine⟨_,rfl,Zj hm ho eE (fu.1 gN).1 pL k1 k2 k3 k4 k5 k6 k7 (fun z hz=>?_) k8 k9 (.aU _ _ _ rfl fun i hi ab=>?_)⟩
     ·rcases List.mem_append.1 hz with hz|hz
      ·exact pL.bytes z hz
      ·obtain⟨u,_,rfl⟩:=eT.1 hz;exact u.toNat_lt
     ·rw[ep]at hi
      match i,hi with
      |0,_=>simp only[ep];exact .int _ _ _
      |1,_=>exact .gx _
   ·cases hp
  ·cases hp
 ·cases hp
theorem agi{T e:TypeId}(hf:P.funcs[f]?=some fn)(hb:fn.body.isNone=false)(hn:(fn.name== "runtime.NumGoroutine")=false)
  (h:∀(b:Nat) (p v:Value) (r:Option Nat) (q:List Nat) (w:World),w.heap[b]?=some (.cells #[p,v] T (0,0))->pv w e q v r->r≠some b->(∀x∈q,x<256)→
   Calls P f #[.pointer (some ⟨b,0,none⟩)] w fun en w'=>∃bs:ByteArray,en= .returned (.string bs)/\bs.data.toList.map UInt8.toNat=q∧
    w.heap.size<=w'.heap.size/\w'.os=w.os/\w'.tape=w.tape/\w'.output=w.output/\∀k,k<w.heap.size->r≠some k->w'.heap[k]?=w.heap[k]?):
  mr Fence.wide P base LC gl f (xO T e):=by
 intro n g own mem w args r m' bN hm ho eE cM hp;unfold xO at hp;split at hp
 ·rename_i id;split at hp
  ·rename_i T' e' t gN;split at hp
   ·rename_i hc;obtain⟨rfl,rfl⟩:=hc;simp only[bc,az]at hp;obtain⟨rfl,rfl⟩:=hp;obtain⟨x,rfl,hx⟩:=Em cM;cases hx with
    |μ _ _ _ b jx=>
     obtain⟨b',p,v,Ez,pL⟩:=QH (hm.blk id _ gN)
     have:=pL.mb;rw[jx]at this;cases this;have xq:Ez≠some b:=fun he=>(pL.qV b he).2.1 rfl;refine FA hf hb hn (callsIn_wide.2 ((h b p v Ez t w pL.heap pL.row xq pL.bytes).mono fun en w' he=>?_));obtain⟨bs,rfl,fG,k1,k2,k3,k4,k5⟩:=he;exact⟨_,rfl,Zg hm ho eE pL k1 k2 k3 k4 k5 (.str _ _ _ fG)⟩
   ·cases hp
  ·cases hp
 ·cases hp
theorem ahe(T e:TypeId):∀args m r m',xP T e args m=some (r,m')->KM m m':=by
 intro args m r m' hp;unfold xP at hp;split at hp
 ·split at hp
  ·split at hp
   ·simp only[bc,az]at hp;obtain⟨rfl,rfl⟩:=hp;exact KM.set (fun _ h=>by cases h) _
   ·cases hp
  ·cases hp
 ·cases hp
theorem ahd(T e:TypeId):∀args m r m',xO T e args m=some (r,m')->KM m m':=by
 intro args m r m' hp;unfold xO at hp;split at hp
 ·split at hp
  ·split at hp
   ·simp only[bc,az]at hp;obtain⟨rfl,rfl⟩:=hp;exact KM.set (fun _ h=>by cases h) _
   ·cases hp
  ·cases hp
 ·cases hp
theorem O9{ax:cu}{v:AV}(iQ:nA Fence.wide P base LC gl ax)(hcv:∀mem,ax (.fn (.func f) [] []) [] mem=some (v,mem)):mr Fence.wide P base LC gl f (uK v):=by
 intro n g own mem w args r m' bN hm ho eE cM hp;unfold uK at hp;split at hp
 ·simp only[bc,az]at hp;obtain⟨rfl,rfl⟩:=hp;have hv:bN= #[]:=by have h0:=cM.1;simp at h0;exact Array.size_eq_zero_iff.1 (by omega)
  subst hv;have nU:VR g bV (.fn (.func f) [] []) (.func (.func f) #[] #[]):= .fn _ _ _ _ _ _ _ rfl rfl rfl (fun i hi=>by simp at hi) (fun i hi=>by simp at hi);have:=iQ n g bV own mem w _ _ _ _ _ #[] hm ho eE nU cM (hcv mem);have dY:(do let d<-Deferred.ofValue (.func (.func f) #[] #[]) #[];invoke d.target d.args:Sem Next).run P w=(callFunc f #[]).run P w:=by simp only[Deferred.ofValue,Sem.run_bind,Sem.run_pure,Result.andThen_ok,invoke];rfl
  unfold tH at this;rw[dY]at this;exact this
 ·cases hp
end
end Go.Δ
