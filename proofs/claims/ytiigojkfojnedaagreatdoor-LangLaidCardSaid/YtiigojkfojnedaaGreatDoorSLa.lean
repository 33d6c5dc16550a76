import Derived.Test.YtiigojkfojnedaaGreatDoorSR
import Derived.Lib.AppendStr
import Derived.Lib.Atoi
import Derived.Lib.ItoaNum
import Derived.Lib.Join
import Derived.Lib.Bytealg
set_option linter.all false
set_option maxRecDepth 100000
set_option maxHeartbeats 8000000
open Nat renaming le_trans->va,lt_of_lt_of_le->ku,le_max_left->yp,le_max_right->yq,lt_or_ge->da,zero_add->lF,le_refl->bS
open Option renaming map_eq_some_iff->bD,map_some->qx,bind_eq_some_iff->Cv
open List renaming nil_append->bE,getElem_cons_zero->kJ,eq_nil_of_length_eq_zero->np,append_assoc->bO,getElem?_eq_none->h_,getElem?_append_left->ek,length_nil->eO,map_cons->az,getElem?_set_ne->gR,map_map->cT,map_congr_left->de,getElem?_eq_getElem->dn,range->ry,mem_map->eP,getD_eq_getElem?_getD->nT,getElem_map->ja,getElem_range->Kd,length_map->cg,length->lC,length_append->cI,length_take->lD,length_set->nq,getElem?_set->wH,getElem?_eq_some_iff->fB
open Array renaming length_toList->wC,getElem?_eq_some_iff->An
open Go.IntKind renaming u8->alQ
open Option.some renaming injEq->bh
open Prod.mk renaming injEq->aA
namespace Go.Θ
open Go.RowKit (Below)
section
variable{F:Fence}{n:Nat}{P:Program}{gl:Nat->AV}{base:Nat}{LC:eY}{g:Gh}{own:OW}{mem:Mem}{w w':World}{r:AV}{x:Value}
theorem Z'(hm:bc g own LC mem w)(ho:bT base own w)(eH:ni g gl)(hb:Below w.heap.size w w')(hv:VR g bV r x):lW base LC gl g own w r mem x w':=by
 obtain⟨h1,h2,h3,h4,h5⟩:=hb;refine⟨g,eD own,⟨g.eS,h4,h1,h2,h3,fun b hb _=>h5 b hb,fun _ _ h=>by simpa[eD]using h,fun _ _ _ _=>rfl⟩,?_,hv,⟨fun b o hb=>?_,va ho.base h4⟩,fun b d hb=>?_,eH⟩
 ·refine hm.bf g.eS (fun _ h=>h) (fun _ _ h=>h) (fun id b hb=>⟨by rw[wa hb,hb],h5 b (ho.ge b _ hb).2,fun _=>rfl⟩) (fun b o y hy=>?_);have hc:=hm.im b o y hy;rw[qC (h5 b (wP hc))];exact hc
 ·have:=ho.ge b o (uP hb).1;exact⟨this.1,ku this.2 h4⟩
 ·obtain⟨_,id,h⟩:=uP hb;cases h
theorem FV{f:FuncId}{fn:Func}{bK:Array Value}(hf:P.funcs[f]?=some fn)(hb:fn.body.isNone=false)(hn:(fn.name== "runtime.NumGoroutine")=false){R:Value->World->Prop}
  (h:CallsIn F n P f bK w fun e w'=>∃x,e= .returned x/\R x w'):P_ F n P ((callFunc f bK).run P w) w R:=
 .inl ⟨f,bK,EY hf hb hn,h⟩
theorem ET{R:AV->Value->Prop}{a:AV}{bK:Array Value}(h:PW R [a] bK.toList):∃x,bK= #[x]/\R a x:=by
 obtain⟨l⟩:=bK
 match l,h with
 |[x],h=>exact⟨x,rfl,h.2 0 (by simp) (by simp)⟩
 |[],h=>exact absurd h.1 (by simp)
 |_::_::_,h=>exact absurd h.1 (by simp)
theorem Js{R:AV->Value->Prop}{a b:AV}{bK:Array Value}(h:PW R [a,b] bK.toList):∃x y,bK= #[x,y]/\R a x/\R b y:=by
 obtain⟨l⟩:=bK
 match l,h with
 |[x,y],h=>exact⟨x,y,rfl,h.2 0 (by simp) (by simp),h.2 1 (by simp) (by simp)⟩
 |[],h=>exact absurd h.1 (by simp)
 |[_],h=>exact absurd h.1 (by simp)
 |_::_::_::_,h=>exact absurd h.1 (by simp)
end
open Classical
noncomputable def ab(C:iL):cx:=fun fv args mem=>
 if h:∃r k,cv C k fv args mem=some r then some h.choose else none
noncomputable def dN:pJ:=fun b s=>if h:∃r n,fV n b s=some r then some h.choose else none
theorem oO{C:iL}{fv args mem r}:ab C fv args mem=some r↔∃k,cv C k fv args mem=some r:=by
 unfold ab;split
 ·rename_i h;obtain⟨k,hk⟩:=h.choose_spec;constructor
  ·intro he;cases he;exact⟨k,hk⟩
  ·rintro⟨k',df⟩
   have h1:=yG C (yp k k') _ _ _ _ hk;have h2:=yG C (yq k k') _ _ _ _ df;rw[h1]at h2;exact h2
 ·rename_i h;constructor
  ·intro he;cases he
  ·rintro⟨k,hk⟩;exact absurd ⟨r,k,hk⟩ h
theorem Qr{b:St->Option (Ex×St)}{n m:Nat}(h:n<=m){s r}(hr:fV n b s=some r):fV m b s=some r:=
 FC n m h b b (fun _ _ h=>h) s r hr
theorem I7{b s r}:dN b s=some r↔∃n,fV n b s=some r:=by
 unfold dN;split
 ·rename_i h;obtain⟨k,hk⟩:=h.choose_spec;constructor
  ·intro he;cases he;exact⟨k,hk⟩
  ·rintro⟨k',df⟩
   have h1:=Qr (yp k k') hk;have h2:=Qr (yq k k') df;rw[h1]at h2;exact h2
 ·rename_i h;constructor
  ·intro he;cases he
  ·rintro⟨k,hk⟩;exact absurd ⟨r,k,hk⟩ h
theorem CB(n:Nat)(b:St->Option (Ex×St))(s:St):fV (n+1) b s=match b s with
  |some (.normal,s')=>fV n b s'
  |r=>r:=rfl
theorem age{b:St->Option (Ex×St)}{s s':St}(h:b s=some (.normal,s')):dN b s=dN b s':=by
 apply Option.ext;intro r;rw[I7,I7];constructor
 ·rintro⟨n,hn⟩
  cases n with
  |zero=>simp[fV]at hn
  |succ n=>rw[CB,h]at hn;exact⟨n,hn⟩
 ·rintro⟨n,hn⟩
  exact⟨n+1,by rw[CB,h];exact hn⟩
theorem Ws{b:St->Option (Ex×St)}{s:St}{r:Ex×St}(h:b s=some r)(hr:r.1≠ .normal):dN b s=some r:=by rw[I7];refine⟨1,?_⟩;rw[CB,h];obtain⟨e,s'⟩:=r;cases e<;>simp_all
section
variable{C:iL}{gl:Nat->AV}
theorem Y_{ev lk mem dst o r}(h:aI ev lk mem (ab C) dst o=some r):∃k,aI ev lk mem (cv C k) dst o=some r:=by
 cases o
 case call f args=>
  simp only[aI,bD]at h⊢
  obtain⟨x,hx,hr⟩:=h;obtain⟨k,hk⟩:=oO.1 hx;exact⟨k,x,hk,hr⟩
 case callz f args=>
  simp only[aI]at h⊢
  split at h
  ·rename_i he;obtain⟨k,hk⟩:=oO.1 he;exact⟨k,by rw[hk];exact h⟩
  ·cases h
 all_goals exact⟨0,h⟩
theorem QD{o s r}(h:dP gl (ab C) o s=some r):∃k,dP gl (cv C k) o s=some r:=by
 unfold dP at h⊢;split at h
 ·cases h
 ·split at h
  ·rename_i he;obtain⟨k,hk⟩:=Y_ he;exact⟨k,by rw[hk];exact h⟩
  ·cases h
 ·exact⟨0,h⟩
theorem Zb{l s r}(h:dY gl (ab C) l s=some r):∃k,dY gl (cv C k) l s=some r:=by
 induction l generalizing s with
 |nil=>exact⟨0,h⟩
 |cons o l ih=>
  simp only[dY]at h⊢
  split at h
  ·rename_i s' he;obtain⟨k1,h1⟩:=QD he;obtain⟨k2,h2⟩:=ih h;refine⟨max k1 k2,?_⟩;rw[FE (yG C (yp _ _)) h1];exact Qu (yG C (yq _ _)) h2
  ·cases h
theorem Ze{l s r}(h:ew gl (ab C) l s=some r):∃k,ew gl (cv C k) l s=some r:=by
 induction l generalizing s r with
 |nil=>exact⟨0,h⟩
 |cons o l ih=>
  simp only[ew]at h⊢
  split at h
  ·rename_i s' he;simp only[bD]at h;obtain⟨x,hx,rfl⟩:=h;obtain⟨k1,h1⟩:=QD he;obtain⟨k2,h2⟩:=ih hx;refine⟨max k1 k2,?_⟩;rw[FE (yG C (yp _ _)) h1];simp only[QC (yG C (yq _ _)) h2,qx]
  ·cases h
theorem Y0{l cf af s r}(h:e_ gl (ab C) l cf af s=some r):∃k,e_ gl (cv C k) l cf af s=some r:=by
 unfold e_ at h⊢;split at h
 ·rename_i tr he;obtain⟨k,hk⟩:=Ze he;exact⟨k,by rw[hk];exact h⟩
 ·cases h
theorem sU{k k':Nat}(hk:k<=k'){a:AC}{s r}(h:exec gl (cv C k) (fV k) a s=some r):exec gl (cv C k') (fV k') a s=some r:=
 Gb (yG C hk) (FC _ _ hk) a s r h
theorem AW(a:AC):∀s r,exec gl (ab C) dN a s=some r->∃k,exec gl (cv C k) (fV k) a s=some r:=by
 induction a with
 |skip=>intro s r h;exact⟨0,h⟩
 |ops l=>
  intro s r h
  simp only[exec,bD]at h⊢;obtain⟨x,hx,hr⟩:=h;obtain⟨k,hk⟩:=Zb hx;exact⟨k,x,hk,hr⟩
 |draw l cf af=>
  intro s r h
  simp only[exec,bD]at h⊢;obtain⟨x,hx,hr⟩:=h;obtain⟨k,hk⟩:=Y0 hx;exact⟨k,x,hk,hr⟩
 |seq a b dM gx=>
  intro s r h
  simp only[exec]at h;split at h
  ·rename_i s' he;obtain⟨k1,h1⟩:=dM _ _ he;obtain⟨k2,h2⟩:=gx _ _ h;exact⟨max k1 k2,by simp only[exec,sU (yp k1 k2) h1];exact sU (yq k1 k2) h2⟩
  ·rename_i φ;obtain⟨k1,h1⟩:=dM _ _ h;refine⟨k1,?_⟩;simp only[exec,h1];split
   ·rename_i he;cases he;exact absurd h (φ _)
   ·rfl
 |cond x a b dM gx=>
  intro s r h
  simp only[exec]at h⊢;split at h
  ·split at h
   ·rename_i he ht;obtain⟨k,hk⟩:=dM _ _ h;exact⟨k,by simp only[ht,if_true];exact hk⟩
   ·rename_i he ht;obtain⟨k,hk⟩:=gx _ _ h;exact⟨k,by simp only[ht];exact hk⟩
  ·cases h
 |block id a dM=>
  intro s r h
  simp only[exec]at h⊢;split at h
  ·rename_i he;obtain⟨k,hk⟩:=dM _ _ he;exact⟨k,by rw[hk];exact h⟩
  ·rename_i φ;obtain⟨k,hk⟩:=dM _ _ h;refine⟨k,?_⟩;rw[hk];split
   ·rename_i he;cases he;exact absurd h (φ _ _)
   ·rfl
 |loop a dM=>
  intro s r h
  simp only[exec]at h⊢;obtain⟨n,hn⟩:=I7.1 h;have:∀n s,fV n (exec gl (ab C) dN a) s=some r->∃k,fV k (exec gl (cv C k) (fV k) a) s=some r:=by
   intro n;induction n with
   |zero=>intro s h;simp[fV]at h
   |succ n ih=>
    intro s h
    simp only[fV]at h;split at h
    ·rename_i s' he;obtain⟨k1,h1⟩:=dM _ _ he;obtain⟨k2,h2⟩:=ih _ h;refine⟨max k1 k2+1,?_⟩;rw[CB,sU (show k1<=max k1 k2+1 by omega) h1];exact FC _ _ (show k2<=max k1 k2 by omega) _ _ (fun s r h=>sU (show k2<=max k1 k2+1 by omega) h) _ _ h2
    ·rename_i φ;obtain⟨k1,h1⟩:=dM _ _ h;refine⟨k1+1,?_⟩;rw[CB,sU (show k1<=k1+1 by omega) h1];split
     ·rename_i he;cases he;exact absurd h (φ _)
     ·rfl
  exact this n s hn
 |exit id=>intro s r h;exact⟨0,h⟩
 |ret=>intro s r h;exact⟨0,h⟩
 |B6 f ps fQ body _ _=>
  intro s r h
  simp only[exec]at h⊢;split at h
  ·rename_i he;obtain⟨fv,h1,h2⟩:=Cv.1 he;obtain⟨k,hk⟩:=oO.1 h2;refine⟨k,?_⟩;rw[h1];simp only[Option.bind_some,hk];exact h
  ·cases h
 |ER ds=>intro s r h;exact⟨0,h⟩
 |bad=>intro s r h;exact⟨0,h⟩
theorem ajb{l args mem r}(h:round (exec gl (ab C) dN) l args mem=some r):∃k,round (exec gl (cv C k) (fV k)) l args mem=some r:=by
 unfold round at h⊢;split at h
 ·split at h
  ·rename_i hlen;simp only[hlen,if_true];split at h
   ·rename_i he;obtain⟨k1,h1⟩:=AW _ _ _ he;split at h
    ·rename_i ov;split at h
     ·rename_i l_;obtain⟨k2,h2⟩:=AW _ _ _ l_;exact⟨max k1 k2,by simp only[sU (yp k1 k2) h1,ov,if_true,sU (yq k1 k2) h2];exact h⟩
     ·rename_i l_;obtain⟨k2,h2⟩:=AW _ _ _ l_;exact⟨max k1 k2,by simp only[sU (yp k1 k2) h1,ov,if_true,sU (yq k1 k2) h2];exact h⟩
     ·rename_i l_;obtain⟨k2,h2⟩:=AW _ _ _ l_;exact⟨max k1 k2,by simp only[sU (yp k1 k2) h1,ov,if_true,sU (yq k1 k2) h2];exact h⟩
     ·cases h
    ·cases h
   ·cases h
  ·cases h
 ·cases h
theorem sS{fv args mem r}(h:body C (ab C) dN fv args mem=some r):ab C fv args mem=some r:=by
 apply oO.2;unfold body at h;split at h
 ·split at h
  ·rename_i p hp;exact⟨1,by simp only[cv,body,hp];exact h⟩
  ·rename_i hp;split at h
   ·rename_i g hg;generalize he:exec C.gl (ab C) dN _ _=x at h;cases x with
    |none=>simp[fin]at h
    |some x=>
     obtain⟨k,hk⟩:=AW _ _ _ he
     exact⟨k+1,by simp only[cv,body,hp,hg,hk];exact h⟩
   ·cases h
 ·split at h
  ·rename_i g hg;generalize he:exec C.gl (ab C) dN _ _=x at h;cases x with
   |none=>simp[fin]at h
   |some x=>
    obtain⟨k,hk⟩:=AW _ _ _ he
    exact⟨k+1,by simp only[cv,body,hg,hk];exact h⟩
  ·cases h
 ·obtain⟨k,hk⟩:=ajb h;exact⟨k+1,by simp only[cv,body];exact hk⟩
 ·cases h
end
theorem agf{b:St->Option (Ex×St)}{I:Nat->St->Prop}{ib:Ex×St->Prop}(n:Nat)
  (step:∀i s,i<=n->I i s->(∃s',b s=some (.normal,s')/\i<n/\I (i+1) s')\/(∃r,b s=some r/\r.1≠ .normal/\ib r)):
  ∀k i s,i+k=n->I i s->∃r,dN b s=some r/\ib r:=by
 intro k;induction k with
 |zero=>
  intro i s hi hI
  rcases step i s (by omega) hI with⟨s',_,h,_⟩|⟨r,h1,h2,h3⟩
  ·omega
  ·exact⟨r,Ws h1 h2,h3⟩
 |succ k ih=>
  intro i s hi hI
  rcases step i s (by omega) hI with⟨s',h1,h,h2⟩|⟨r,h1,h2,h3⟩
  ·obtain⟨r,h3,h4⟩:=ih (i+1) s' (by omega) h2;exact⟨r,by rw[age h1];exact h3,h4⟩
  ·exact⟨r,Ws h1 h2,h3⟩
theorem agc{gl:Nat->AV}{c:cx}{a:AC}{I:Nat->St->Prop}{ib:Ex×St->Prop}(n:Nat){s:St}(h0:I 0 s)
  (step:∀i s,i<=n->I i s->(∃s',exec gl c dN a s=some (.normal,s')/\i<n/\I (i+1) s')\/(∃r,exec gl c dN a s=some r/\r.1≠ .normal/\ib r)):
  ∃r,exec gl c dN (.loop a) s=some r/\ib r:=by
 simp only[exec];exact agf n step n 0 s (by omega) h0
def κ(gl:Nat->AV)(c:cx)(a:AC)(s:St)(Q:Ex×St->Prop):Prop:=∃r,exec gl c dN a s=some r/\Q r
theorem κ.seq{gl:Nat->AV}{c:cx}{a b:AC}{s:St}{M:St->Prop}{Q:Ex×St->Prop}(h:κ gl c a s fun r=>(r.1= .normal/\M r.2)\/(r.1≠ .normal/\Q r))(k:∀s',M s'->κ gl c b s' Q):κ gl c (.seq a b) s Q:=by
 obtain⟨⟨e,s'⟩,h1,h2⟩:=h;rcases h2 with⟨rfl,h2⟩|⟨h2,h3⟩
 ·obtain⟨r,h3,h4⟩:=k s' h2;exact⟨r,by simp only[exec,h1];exact h3,h4⟩
 ·refine⟨(e,s'),?_,h3⟩;simp only[exec,h1];cases e<;>simp_all
theorem κ.seq'{gl:Nat->AV}{c:cx}{a b:AC}{s:St}{M:St->Prop}{Q:Ex×St->Prop}(h:∃s',exec gl c dN a s=some (.normal,s')/\M s')(k:∀s',M s'->κ gl c b s' Q):κ gl c (.seq a b) s Q:=by obtain⟨s',h1,h2⟩:=h;exact κ.seq ⟨_,h1,.inl ⟨rfl,h2⟩⟩ k
abbrev AV.n(x:Int):AV:= .int .i64 x
abbrev St.e(s:St)(n:Nat):AV:=aK s.env n
abbrev St.q(s:St)(n:Nat):Option (Nat×θ):=bQ s.loc n
abbrev kV(B:List θ)(p:Nat)(c:List AV)(x:List θ)(T:List Nat):Mem:= {ε:=B.set p (.cells c)++x,η:=T}
theorem Δ{gl:Nat→AV}{c:cx}{a b:AC}{s:St}(M:St→Prop){Q:Ex×St→Prop}(h:∃s',exec gl c dN a s=some (.normal,s')∧M s')(k:∀s',M s'→κ gl c b s' Q):κ gl c (.seq a b) s Q:=κ.seq' h k
theorem bJ{gl:Nat→AV}{c:cx}{a b:AC}{s:St}(M:St→Prop){Q:Ex×St→Prop}(h:κ gl c a s fun r=>(r.1= .normal∧M r.2)∨(r.1≠ .normal∧Q r))(k:∀s',M s'→κ gl c b s' Q):κ gl c (.seq a b) s Q:=κ.seq h k
attribute [simp] AV.n St.e St.q kV
theorem κ.block{gl:Nat->AV}{c:cx}{a:AC}{i:Nat}{s:St}{Q:Ex×St->Prop}(h:κ gl c a s fun r=>(r.1= .exit i/\Q (.normal,r.2))\/(r.1≠ .exit i/\Q r)):κ gl c (.block i a) s Q:=by
 obtain⟨⟨e,s'⟩,h1,h2⟩:=h;rcases h2 with⟨rfl,h2⟩|⟨h2,h3⟩
 ·exact⟨_,by simp only[exec,h1,if_true],h2⟩
 ·refine⟨(e,s'),?_,h3⟩;simp only[exec,h1];cases e with
  |exit j=>
   have:j≠i:=fun he=>h2 (by rw[he])
   simp only[this,if_false]
  |_=>rfl
theorem κ.loop{gl:Nat->AV}{c:cx}{a:AC}{I:Nat->St->Prop}{Q:Ex×St->Prop}(n:Nat){s:St}(h0:I 0 s)
  (step:∀i s,i<=n->I i s->(i<n/\∃s',exec gl c dN a s=some (.normal,s')/\I (i+1) s')\/(∃r,exec gl c dN a s=some r/\r.1≠ .normal/\Q r)):κ gl c (.loop a) s Q:=
 agc n h0 fun i s hi hI=>(step i s hi hI).imp (fun⟨h1,s',h2,h3⟩=>⟨s',h2,h1,h3⟩) id
theorem AH(m:Mem):m.back {ε:=m.ε,η:=[]}=m:=by cases m;simp[Mem.back,lV]
theorem Zp(m:Mem)(l:List θ):m.back {ε:=m.ε++l,η:=[]}=m:=by cases m;simp[Mem.back,lV]
theorem KZ{C:iL}{f:FuncId}{g:AF}{args:List AV}{m:Mem}{ex:Ex}{s':St}{l:List AV}(hp:C.gQ f=none)(hf:C.fs f=some g)(hk:C.bf f=false)
  (hx:exec C.gl (ab C) dN g.code {env:=args.map (exp m.ε.length false),loc:=[],mem:= {ε:=m.ε,η:=[]}}=some (ex,s')) (hex:∀i,ex≠ .exit i) (hl:cK s' g.results=some l):
  ab C (.fn (.func f) [] []) args m=some (aO s'.mem.ε m.ε.length 8 (cL l),m.back s'.mem):=by
 apply sS;simp only[body,hp,hf,hk,bE,List.append_nil,hx];cases ex with
 |exit i=>exact absurd rfl (hex i)
 |_=>simp only[fin,hl];rfl
theorem sP{C:iL}{f:FuncId}{g:AF}{args cap:List AV}{m:Mem}{ex:Ex}{s':St}{l:List AV}(hp:C.gQ f=none)(hf:C.fs f=some g)(hk:C.bf f=true)
  (hx:exec C.gl (ab C) dN g.code {env:=(args++cap).map (exp m.ε.length true),loc:=[],mem:= {ε:=m.ε,η:=[]}}=some (ex,s')) (hex:∀i,ex≠ .exit i) (hl:cK s' g.results=some l):
  ab C (.fn (.func f) [] cap) args m=some (exp s'.mem.ε.length true (cL l),{ε:=s'.mem.ε,η:=m.η++s'.mem.η}):=by
 apply sS;simp only[body,hp,hf,hk,bE,hx];cases ex with
 |exit i=>exact absurd rfl (hex i)
 |_=>simp only[fin,hl];rfl
theorem dI{C:iL}{f:FuncId}{g:AF}{args:List AV}{m:Mem}{v:AV}(hp:C.gQ f=none)(hf:C.fs f=some g)(hk:C.bf f=false)
  (hx:κ C.gl (ab C) g.code {env:=args.map (exp m.ε.length false),loc:=[],mem:= {ε:=m.ε,η:=[]}} fun r=>
   (∀i,r.1≠ .exit i)/\(∃bs,r.2.mem= {ε:=m.ε++bs,η:=[]})/\∃l,cK r.2 g.results=some l/\aO r.2.mem.ε m.ε.length 8 (cL l)=v):ab C (.fn (.func f) [] []) args m=some (v,m):=by
 obtain⟨⟨ex,s'⟩,h1,h2,⟨bs,h3⟩,l,h4,h5⟩:=hx;rw[KZ hp hf hk h1 h2 h4];dsimp only at h3 h5;rw[h5,h3,Zp]
theorem κ.go{gl:Nat->AV}{c:cx}{a b:AC}{s s':St}{Q:Ex×St->Prop}(h:exec gl c dN a s=some (.normal,s'))(k:κ gl c b s' Q):κ gl c (.seq a b) s Q:=
 κ.seq' (M:=fun x=>x=s') ⟨s',h,rfl⟩ fun _ e=>e▸k
theorem κ.mono{gl:Nat->AV}{c:cx}{a:AC}{s:St}{Q Q':Ex×St->Prop}(h:κ gl c a s Q)(k:∀r,Q r->Q' r):κ gl c a s Q':=by obtain⟨r,h1,h2⟩:=h;exact⟨r,h1,k r h2⟩
theorem κ.yes{gl:Nat->AV}{c:cx}{a b:AC}{x:br}{s:St}{Q:Ex×St->Prop}(hx:dw gl s.env x= .bool true)(h:κ gl c a s Q):κ gl c (.cond x a b) s Q:=by obtain⟨r,h1,h2⟩:=h;exact⟨r,by simp[exec,hx,h1],h2⟩
theorem κ.no{gl:Nat->AV}{c:cx}{a b:AC}{x:br}{s:St}{Q:Ex×St->Prop}(hx:dw gl s.env x= .bool false)(h:κ gl c b s Q):κ gl c (.cond x a b) s Q:=by obtain⟨r,h1,h2⟩:=h;exact⟨r,by simp[exec,hx,h1],h2⟩
theorem κ.upto{gl:Nat->AV}{c:cx}{a:AC}{I:Nat->St->Prop}{Q:Ex×St->Prop}(n:Nat){s:St}(h0:I 0 s)
  (step:∀i s,i<n->I i s->κ gl c a s fun r=>(r.1= .normal/\I (i+1) r.2)\/(r.1≠ .normal/\Q r)) (last:∀s,I n s->κ gl c a s fun r=>r.1≠ .normal/\Q r):κ gl c (.loop a) s Q:=by
 refine κ.loop n h0 fun i s hi hs=>?_;rcases da i n with h|h
 ·obtain⟨⟨e,s'⟩,h1,h2⟩:=step i s h hs;rcases h2 with⟨rfl,h2⟩|⟨h2,h3⟩
  ·exact .inl ⟨h,s',h1,h2⟩
  ·exact .inr ⟨_,h1,h2,h3⟩
 ·have:i=n:=by omega
  subst this;obtain⟨r,h1,h2,h3⟩:=last s hs;exact .inr ⟨r,h1,h2,h3⟩
theorem VI{C:iL}{f:FuncId}{g:AF}{args cap:List AV}{m m':Mem}{v:AV}(hp:C.gQ f=none)(hf:C.fs f=some g)(hk:C.bf f=true)
  (hx:κ C.gl (ab C) g.code {env:=(args++cap).map (exp m.ε.length true),loc:=[],mem:= {ε:=m.ε,η:=[]}} fun r=>
   (∀i,r.1≠ .exit i)/\(r.2.mem= {ε:=m'.ε,η:=[]})/\∃l,cK r.2 g.results=some l/\exp m'.ε.length true (cL l)=v) (ht:m'.η=m.η):ab C (.fn (.func f) [] cap) args m=some (v,m'):=by
 obtain⟨⟨ex,s'⟩,h1,h2,h3,l,h4,h5⟩:=hx;rw[sP hp hf hk h1 h2 h4];dsimp only at h3 h5;rw[h3];cases m';simp_all
theorem kF{C:iL}{f:FuncId}{g:AF}{fst args cap:List AV}{m:Mem}{v:AV}{B:List θ}(hp:C.gQ f=none)(hf:C.fs f=some g)(hk:C.bf f=false)(hB:B.length=m.ε.length)
  (hx:κ C.gl (ab C) g.code {env:=(fst++args++cap).map (exp m.ε.length false),loc:=[],mem:= {ε:=m.ε,η:=[]}} fun r=>
   (∀i,r.1≠ .exit i)/\(∃bs,r.2.mem= {ε:=B++bs,η:=[]})/\∃l,cK r.2 g.results=some l/\aO r.2.mem.ε m.ε.length 8 (cL l)=v):ab C (.fn (.func f) fst cap) args m=some (v,{ε:=B,η:=m.η}):=by
 obtain⟨⟨ex,s'⟩,h1,h2,⟨bs,h3⟩,l,h4,h5⟩:=hx;have:ab C (.fn (.func f) fst cap) args m=some (aO s'.mem.ε m.ε.length 8 (cL l),m.back s'.mem):=by
  apply sS;simp only[body,hp,hf,hk,h1];cases ex with
  |exit i=>exact absurd rfl (h2 i)
  |_=>simp only[fin,h4];rfl
 rw[this];dsimp only at h3 h5;rw[h5,h3];simp[Mem.back,lV,<-hB]
theorem sQ{C:iL}{f:FuncId}{g:AF}{fst args cap:List AV}{m:Mem}{v:AV}(hp:C.gQ f=none)(hf:C.fs f=some g)(hk:C.bf f=false)
  (hx:κ C.gl (ab C) g.code {env:=(fst++args++cap).map (exp m.ε.length false),loc:=[],mem:= {ε:=m.ε,η:=[]}} fun r=>
   (∀i,r.1≠ .exit i)/\(∃bs,r.2.mem= {ε:=m.ε++bs,η:=[]})/\∃l,cK r.2 g.results=some l/\aO r.2.mem.ε m.ε.length 8 (cL l)=v):ab C (.fn (.func f) fst cap) args m=some (v,m):=
 kF hp hf hk rfl hx
def first{α:Type}(f:α->Int):List α->Int
 |[]=>0
 |x::l=>if f x≠0 then f x else first f l
theorem LZ{α:Type}{f:α->Int}{l:List α}{i:Nat}(hi:i<l.length)(h:∀j (hj:j<l.length),j<i->f l[j]=0)(φ:f l[i]≠0):first f l=f l[i]:=by
 induction l generalizing i with
 |nil=>simp at hi
 |cons a l ih=>
  cases i with
  |zero=>simp only[kJ]at φ⊢;simp[first,φ]
  |succ i=>
   have h0:=h 0 (by simp) (by omega)
   simp only[kJ]at h0;simp only[List.getElem_cons_succ]at φ⊢;simp only[first,h0,ne_eq,not_true_eq_false,if_false];exact ih (by simpa using hi) (fun j hj me=>by have:=h (j+1) (by simp;omega) (by omega);simpa using this) φ
theorem Gg{α:Type}{f:α->Int}{l:List α}(h:∀j (hj:j<l.length),f l[j]=0):first f l=0:=by
 induction l with
 |nil=>rfl
 |cons a l ih=>
  have h0:=h 0 (by simp)
  simp only[kJ]at h0;simp only[first,h0,ne_eq,not_true_eq_false,if_false];exact ih fun j hj=>by have:=h (j+1) (by simp;omega);simpa using this
theorem CE{P:Nat->Prop}{i n:Nat}(h:∀j,j<n->j<i->P j)(hi:P i):∀j,j<n->j<i+1->P j:=fun j hj me=>by
 rcases da j i with h'|h'
 ·exact h j hj h'
 ·have:j=i:=by omega
  subst this;exact hi
theorem ff{k n:Int}(h:k≠n):(k==n)=false:=by simpa using h
theorem bne_true{k n:Int}(h:k≠n):(k !=n)=true:=by simpa using h
def Row(n:Nat)(bs:List θ)(sz:Nat)(e:TypeId)(c:ρ)(len:Nat):Prop:=((c= .nil\/c= .full)/\len=0)\/∃t,c= .own t/\n<=t/\bs[t]?=some (.front len sz e)
theorem Row.nil{n:Nat}{bs:List θ}{sz:Nat}{e:TypeId}:Row n bs sz e .nil 0:= .inl ⟨.inl rfl,rfl⟩
theorem Row.full{n:Nat}{bs:List θ}{sz:Nat}{e:TypeId}:Row n bs sz e .full 0:= .inl ⟨.inr rfl,rfl⟩
structure YJ (n:Nat) (bs kx:List θ) (e:TypeId):Prop where
 rows:∀eT e' c' k',e'≠e->Row n bs eT e' c' k'->Row n kx eT e' c' k'
 len:bs.length<=kx.length
 oD:∀t,(∀k sz,bs[t]?≠some (.front k sz e))->t<bs.length->kx[t]?=bs[t]?
theorem uW{B ext:List θ}{ag:Bool}{sz bytes:Nat}{e:TypeId}{c:ρ}{l:List AV}{v:AV}(h:Row B.length (B++ext) sz e c l.length)(hl:l.all (shaped ag sz)=true)(hv:shaped ag sz v=true)(hn:ν v=v)
  (hs:0<sz) (hb:(l.length+1)*bytes<=140737488355328) (aY:l.length+1<=140737488355328):
  ∃c' ext',(∀T,gC {ε:=B++ext,η:=T} ag sz bytes e (.list c l) (.list .full [v])=some (.list c' (l++[v]),{ε:=B++ext',η:=T}))/\Row B.length (B++ext') sz e c' (l.length+1)/\YJ B.length (B++ext) (B++ext') e:=by
 rcases h with⟨hc,h0⟩|⟨t,rfl,h1,h2⟩
 ·have:l=[]:=np h0;subst this;refine⟨.own (B.length+ext.length),ext++[.front 1 sz e],fun T=>?_,.inr ⟨_,rfl,by omega,?_⟩,⟨fun eT e' c' k' he hr=>?_,by simp,fun t _ ht=>?_⟩⟩
  ·have q1:bytes<=140737488355328:=by simpa using hb
   rcases hc with rfl|rfl<;>simp[gC,hv,hs,Mem.push,Mem.ν,hn,q1]
  ·rw[<-bO];have:B.length+ext.length=(B++ext).length:=by simp
   rw[this];simp
  ·rcases hr with⟨h1,rfl⟩|⟨t,rfl,h1,h2⟩
   ·exact .inl ⟨h1,rfl⟩
   ·refine .inr ⟨t,rfl,h1,?_⟩;rw[<-bO];have ht:t<(B++ext).length:=by
     rcases da t (B++ext).length with h|h
     ·exact h
     ·rw[h_ h]at h2;cases h2
    rw[ek ht];exact h2
  ·rw[<-bO,ek ht]
 ·have ht:t<(B++ext).length:=by
   rcases da t (B++ext).length with h|h
   ·exact h
   ·rw[h_ h]at h2;cases h2
  have kR:(B++ext).set t (.front (l.length+1) sz e)=B++ext.set (t-B.length) (.front (l.length+1) sz e):=by rw[List.set_append,if_neg (by omega)]
  refine⟨.own t,ext.set (t-B.length) (.front (l.length+1) sz e),fun T=>?_,.inr ⟨t,rfl,h1,?_⟩,⟨fun eT e' c' k' he hr=>?_,by simp,fun t' hf vT=>?_⟩⟩
  ·simp only[gC];simp only[List.all_cons,hv,List.all_nil,Bool.and_self,hl,hs,decide_true,List.length_cons,eO,lF,hb,aY,h2,Bool.true_and,if_true,and_self,az,List.map_nil,Mem.ν,hn,Mem.put,kR]
  ·rw[<-kR,List.getElem?_set_self ht]
  ·rcases hr with⟨h3,rfl⟩|⟨t',rfl,h3,h4⟩
   ·exact .inl ⟨h3,rfl⟩
   ·refine .inr ⟨t',rfl,h3,?_⟩;have:t≠t':=by
     rintro rfl
     rw[h2]at h4;cases h4;exact he rfl
    rw[<-kR,gR this];exact h4
  ·have:t≠t':=by
    rintro rfl
    exact hf _ _ h2
   rw[<-kR,gR this]
mutual
theorem AV.beq_refl:∀a:AV,AV.beq a a=true
 | .undef| .cY| .iW| .fX| .gy| .gZ=>rfl
 | .int _ _| .bool _| .str _| .aj _ _ _| .μ _ _| .sl _ _ _ _ _| .map _=>by simp[AV.beq]
 | .ref l=>by simp only[AV.beq];exact AV.kM l
 | .list _ l=>by simp[AV.beq,AV.kM l]
 | .agg l=>by simp only[AV.beq];exact AV.kM l
 | .aQ l=>by simp only[AV.beq];exact AV.kM l
 | .fn _ a b=>by simp[AV.beq,AV.kM a,AV.kM b]
 | .iface _ v=>by simp[AV.beq,AV.beq_refl v]
theorem AV.kM:∀l:List AV,AV.gK l l=true
 |[]=>rfl
 |a::l=>by simp[AV.gK,AV.beq_refl a,AV.kM l]
end
structure Lv (n:Nat) (v w:AV):Prop where
 z:∀bs,aO bs n 8 v=w
 n:ν v=v
structure Fm (ag:Bool) (n sz:Nat) (l ws:List AV):Prop where
 z:∀bs,l.map (aO bs n 8)=ws
 n:l.map ν=l
 s:l.all (shaped ag sz)=true
theorem C'(bs:List θ)(n:Nat)(c:ρ)(l:List AV):aO bs n 8 (.list c l)= .list (c.exp n false) (l.map (aO bs n 8)):=by simp only[aO,fK,qF]
theorem Lv.str(n:Nat)(s:List Nat):Lv n (.str s) (.str s):=⟨fun _=>rfl,rfl⟩
theorem Gk(bs:List θ)(n:Nat)(l:List AV):aO bs n 8 (.agg l)= .agg (l.map (aO bs n 8)):=by simp only[aO,fK,qF]
theorem Fm.of{ag:Bool}{n sz:Nat}{α:Type}(f:α->AV)(l:List α)(h:∀x∈l,Lv n (f x) (f x)/\shaped ag sz (f x)=true):Fm ag n sz (l.map f) (l.map f):=by
 refine⟨fun bs=>?_,?_,?_⟩
 ·rw[cT];exact de fun x hx=>(h x hx).1.z bs
 ·rw[cT];exact de fun x hx=>(h x hx).1.n
 ·simp only[List.all_map,List.all_eq_true,Function.comp];exact fun x hx=>(h x hx).2
def kP(w:World):Gh:=⟨fun b o=>w.cell? ⟨b,o,none⟩,fun _=>none,fun _ _=>none⟩
theorem agk(w:World)(own:OW)(LC:eY):bc (kP w) own LC {ε:=[],η:=[]} w:=
 ⟨fun _ _ h=>(by cases h),fun _ _ _ h=>(by cases h),fun _ _ h=>(by simp at h),fun _ _ _ h=>h⟩
theorem ahp(w:World):bT w.heap.size (fun _=>none) w:=⟨fun _ _ h=>(by cases h),bS _⟩
section
variable{H:Type}{enc:TypeId×Value->H}{P:Program}{w:World}{base:Nat}{spare:Nat->Bool}{held:Bool}
theorem Yt{t e:TypeId}(hu:P.underlying t=some (.slice e)){A:AV->DataW H->Prop}{sz:Nat}(aL:P.cellsOf e=sz)(h0:0<sz){fuel:Nat}{cs:List Value}{x:DataW H×List MemPlace}
  (acj:∀n,n<fuel->∀cs y,DataW.trod enc P w base spare held n e cs=some y->cs.length=sz→
   ∃el,A el y.1/\PW (VR (kP w) bV) el.cells cs/\∀v∈cs,v.oneCell'=true)
  (h:DataW.trod enc P w base spare held fuel t cs=some x):
  ∃v:Value,cs=[v]/\v.oneCell'=true/\((VR (kP w) bV (.list .nil []) v/\x.1= .nil)\/∃(l:List AV) (ds rest:List (DataW H)),VR (kP w) bV (.list .any l) v/\x.1= .slice ds rest/\l.length=ds.length∧
   ∀i (h:i<l.length) (h':i<ds.length),A l[i] ds[i]):=by
 rcases DataW.trod_slice hu h with⟨rfl,rfl⟩|⟨a,len,cap,elems,rest,n,rfl,rfl,rfl,hb,lu,DA,DE,Vk,-,-⟩
 ·exact⟨_,rfl,rfl,.inl ⟨.iU _,rfl⟩⟩
 ·rw[aL]at Vk;have each:∀i (hi:i<len),∃el cs,A el (elems[i]'(by omega)).1/\PW (VR (kP w) bV) el.cells cs/\(∀v∈cs,v.oneCell'=true)/\cs.length=sz/\∀j,j<sz->w.cell? ((a.add (i*sz)).add j)=cs[j]?:=by intro i hi;have hr:=Vk i hi;rw[dn (by omega)]at hr;obtain⟨ah,gX,ht⟩:=Cv.1 hr;obtain⟨-,hl,nC⟩:=World.cells?_some gX;obtain⟨el,k1,k2,k3⟩:=acj n (by omega) ah _ ht hl;exact⟨el,ah,k1,k2,k3,hl,nC⟩
  by_cases hlen:len=0
  ·subst hlen;exact⟨_,rfl,rfl,.inr ⟨[],_,_,.iw _ _ _ _ (.inl rfl),rfl,by simpa using DE.symm,fun i h=>absurd h (Nat.not_lt_zero _)⟩⟩
  ·obtain⟨b,o,spot⟩:=a;have ac':spot=none:=by obtain⟨el,ah,-,-,-,hl,nC⟩:=each 0 (by omega);have g0:=nC 0 h0;rw[dn (by omega)]at g0;simpa[Addr.add]using World.cell?_spot g0
   subst ac';have hex:∃F:Nat->AV×List Value,∀i (hi:i<len),A (F i).1 (elems[i]'(by omega)).1/\PW (VR (kP w) bV) (F i).1.cells (F i).2/\(∀v∈(F i).2,v.oneCell'=true)/\(F i).2.length=sz∧
     ∀j,j<sz->w.cell? ⟨b,o+(i*sz+j),none⟩=(F i).2[j]?:=by
    refine⟨fun i=>if hi:i<len then((each i hi).choose,(each i hi).choose_spec.choose)else(.undef,[]),fun i hi=>?_⟩;simp only[dif_pos hi];obtain⟨k1,k2,k3,k4,k5⟩:=(each i hi).choose_spec.choose_spec;refine⟨k1,k2,k3,k4,fun j hj=>?_⟩;rw[<-k5 j hj,Addr.add_mid,Addr.add_mid,Nat.add_assoc]
   obtain⟨F,hF⟩:=hex;refine⟨_,rfl,rfl,.inr ⟨(ry len).map fun i=>(F i).1,_,_,?_,rfl,by simp[DE],fun i hi ae=>?_⟩⟩
   ·refine .list _ .any _ b o sz len cap (fun i j=>(F i).2.getD j Go.undef) (by simp) lu trivial (fun e he=>?_) (fun i hi j hj=>?_) (fun i hi j hj=>?_)
    ·obtain⟨i,hi,rfl⟩:=eP.1 he;have hi:=List.mem_range.1 hi;obtain⟨k1,k2,k3,k4,k5⟩:=hF i hi;rw[k2.1,k4]
    ·obtain⟨k1,k2,k3,k4,k5⟩:=hF i hi;have e1:(F i).2[j]?=some (F i).2[j]:=dn (by omega);refine⟨?_,?_⟩
     ·show w.cell? ⟨b,o+(i*sz+j),none⟩=_;rw[k5 j hj,e1,nT,e1];rfl
     ·rw[nT,e1];exact k3 _ (List.getElem_mem _)
    ·have ae:i<len:=by simpa using hi
     obtain⟨k1,k2,k3,k4,k5⟩:=hF i ae;simp only[ja,Kd]at hj⊢;have uv:j<(F i).2.length:=by rw[<-k2.1];exact hj
     have:=k2.2 j hj uv;rw[nT,dn uv];exact this
   ·have jo:i<len:=by simpa using hi
    simp only[ja,Kd];exact(hF i jo).1
end
open Go.Lib (strCells strCells_length run_append_grow_string run_append_room_string run_firstCells_string)
def pL(w:World)(e:TypeId)(s:List Nat)(v:Value)(r:Option Nat):Prop:=
 (v= .slice none 0 0/\s=[]/\r=none)\/∃(g cap:Nat) (cur:Array Value),r=some g/\v= .slice (some ⟨g,0,none⟩) s.length cap/\s≠[]∧
  w.heap[g]?=some (.cells cur e (0,0))/\cur.size=cap/\s.length<=cap/\cap<=maxLen/\∀i (h:i<s.length),cur[i]?=some (.int .u8 s[i])
theorem aj8(s:ByteArray)(i:Nat)(h:i<(s.data.toList.map UInt8.toNat).length):(strCells s)[i]?=some (.int .u8 ((s.data.toList.map UInt8.toNat)[i]:Nat)):=by
 have h':i<s.data.size:=by simpa using h
 simp only[strCells,List.getElem?_map,ja];rw[dn (by simpa using h')];rfl
theorem Zx{P:Program}{w:World}{t u ty e:TypeId}{i:TypeInfo}(ht:P.underlying t=some (.slice e))(hu:P.underlying u=some .string)(hi:P.info? e=some i)(hz:i.zero=some (.int .u8 0))
  (D6:i.size=1) (HX:i.bytes=1) {v:Value} {r:Option Nat} {q:List Nat} (hv:pL w e q v r) (s:ByteArray) (hlen:q.length+s.size<=140737488355328):
  ∃(v':Value) (w':World) (r':Option Nat),(Builtin.append_ #[t,u] ty #[v,.string s]).run P w= .ok v' w'/\pL w' e (q++s.data.toList.map UInt8.toNat) v' r'/\(r'=r\/r'=some w.heap.size)∧
   w.heap.size<=w'.heap.size/\w'.os=w.os/\w'.tape=w.tape/\w'.output=w.output/\(∀k,k<w.heap.size->r≠some k->w'.heap[k]?=w.heap[k]?):=by
 have jO:∀n oD,n<=140737488355328->grownCap w n oD e<=maxLen:=fun n oD h=>grownCap_le_maxLen w n oD e (by have:maxLen=9223372036854775807:=rfl;omega);have jZ:(s.data.toList.map UInt8.toNat).length=s.size:=by rw[cg,wC];rfl
 rcases hv with⟨rfl,rfl,rfl⟩|⟨g,cap,cur,rfl,rfl,φ,hg,jm,lu,DA,jz⟩
 ·simp only[eO,lF]at hlen;by_cases hm:s.size=0
  ·have hn:s.data.toList.map UInt8.toNat=[]:=np (by rw[jZ];exact hm);refine⟨.slice none 0 0,w,none,?_,.inl ⟨rfl,by rw[hn];rfl,rfl⟩,.inl rfl,bS _,rfl,rfl,rfl,fun _ _ _=>rfl⟩;have hf:=run_firstCells_string (P:=P) w 1 s;rw[hm]at hf;have D5:strCells s=[]:=np (by rw[strCells_length,hm]);rw[D5]at hf;simp[Builtin.append_,run_underlying ht,run_underlying hu,sizeOf,typeInfo,hi,D6,Builtin.lenOf,hm,hf]
  ·have hr:=run_append_nil_string (P:=P) w t u ty e i (.int .u8 0) ht hu hi hz s (by omega) (by omega) (by rw[HX];omega);refine⟨_,_,some w.heap.size,hr,.inr ⟨w.heap.size,grownCap w s.size 0 e,_,rfl,?_,?_,qK w.drew _,?_,?_,jO _ _ hlen,fun j hj=>?_⟩,.inr rfl,?_,rfl,rfl,rfl,fun k hk _=>um w.drew _ hk⟩
   ·simp[jZ]
   ·intro h0;rw[bE]at h0;have:=congrArg lC h0;rw[jZ]at this;exact hm this
   ·have gu:(Value.int alQ 0).cells.size=1:=rfl;have:=grownCap_ge w s.size 0 e;have hds:s.data.size=s.size:=rfl;rw[Array.size_append,Array.size_map,size_zeroCells,gu,hds];omega
   ·simp only[bE,jZ];exact grownCap_ge w _ _ e
   ·simp only[bE]at hj⊢;have dL:j<s.data.size:=by simpa using hj
    rw[Array.getElem?_append_left (by simpa using dL),Array.getElem?_map,Array.getElem?_eq_getElem dL];simp
   ·show w.heap.size<=(w.heap.push _).size;simp
 ·have acf:∀j u,(cur.toList.take q.length)[j]?=some u->w.cell? ((⟨g,0,none⟩:Addr).add j)=some u:=by
   intro j u hj;rw[List.getElem?_take]at hj;split at hj
   ·rw[Addr.add_mid];simpa[World.cell?,hg]using hj
   ·cases hj
  have Io:(q++s.data.toList.map UInt8.toNat)≠[]:=by simp[φ]
  have nC:∀j (hj:j<(q++s.data.toList.map UInt8.toNat).length),(cur.toList.take q.length++strCells s)[j]?=some (.int .u8 ((q++s.data.toList.map UInt8.toNat)[j]:Nat)):=by
   intro j hj;have ep:(cur.toList.take q.length).length=q.length:=by simp;omega
   rcases da j q.length with h|h
   ·rw[ek (by omega),List.getElem?_take_of_lt h,List.getElem_append_left h,<-jz j h];simp
   ·rw[List.getElem?_append_right (by omega),List.getElem_append_right h,ep];exact aj8 s (j-q.length) (by simp at hj⊢;omega)
  by_cases uz:q.length+s.size<=cap
  ·have hr:=run_append_room_string (P:=P) w t u ty e i ht hu hi D6 g q.length cap cur hg s uz (by omega);refine⟨_,_,some g,hr,.inr ⟨g,cap,_,rfl,by rw[cI,jZ],Io,setRow_heap w g cur _ e _ hg,?_,by rw[cI,jZ];exact uz,DA,fun j hj=>?_⟩,.inl rfl,by simp,rfl,rfl,rfl,
    fun k _ hk=>setRow_other w g k _ (fun e=>hk (by rw[e]))⟩
   ·simp only[List.size_toArray,cI,lD,List.length_drop,wC,strCells_length];omega
   ·have dL:j<(cur.toList.take q.length++strCells s).length:=by rw[cI,jZ]at hj;have ep:cur.toList.length=cur.size:=wC;rw[cI,strCells_length,lD];omega
    have:=nC j hj;rw[List.getElem?_toArray,ek dL];exact this
  ·have hr:=run_append_grow_string (P:=P) w t u ty e i (.int .u8 0) ht hu hi hz ⟨g,0,none⟩ q.length cap (cur.toList.take q.length) (by rw[D6];simp;omega) acf s (by omega) (by omega) (by rw[HX];exact growslice_fits (by omega) (by omega));refine⟨_,_,some w.heap.size,hr,.inr ⟨w.heap.size,grownCap w (q.length+s.size) cap e,_,rfl,by rw[cI,jZ],Io,qK w.drew _,?_,?_,jO _ _ (by omega),fun j hj=>?_⟩,.inr rfl,?_,rfl,rfl,rfl,fun k hk _=>um w.drew _ hk⟩
   ·have gu:(Value.int alQ 0).cells.size=1:=rfl;have:=grownCap_ge w (q.length+s.size) cap e;simp[size_zeroCells,gu,strCells_length];omega
   ·rw[cI,jZ];exact grownCap_ge w _ _ e
   ·have dL:j<(cur.toList.take q.length++strCells s).length:=by rw[cI,jZ]at hj;have ep:cur.toList.length=cur.size:=wC;rw[cI,strCells_length,lD];omega
    have:=nC j hj;rw[<-this];simp only[<-Array.getElem?_toList,Array.toList_append];rw[ek (by simpa using dL)]
   ·show w.heap.size<=(w.heap.push _).size;simp
section
variable{P:Program}{gl:Nat->AV}{base:Nat}{LC:eY}{g:Gh}{own:OW}{mem:Mem}{w w':World}
structure Cm (g:Gh) (own:OW) (w:World) (id:Nat) (T e:TypeId) (s:List Nat) (b:Nat) (p v:Value) (r:Option Nat):Prop where
 mb:g.mb id=some b
 owned:own b=some (.m id)
 im:∀o,g.im b o=none
 heap:w.heap[b]?=some (.cells #[p,v] T (0,0))
 ptr:p= .pointer none\/p= .pointer (some ⟨b,0,none⟩)
 bytes:∀x∈s,x<256
 row:pL w e s v r
 rp:∀k,r=some k->own k=some (.m id)/\k≠b/\∀o,g.im k o=none
theorem QK{id:Nat}{T e:TypeId}{s:List Nat}(h:tR g own LC w id (.nX T e s)):∃b p v r,Cm g own w id T e s b p v r:=by
 obtain⟨b,h1,h2,h3,p,v,h4,h5,h6,⟨rfl,rfl⟩|⟨r,cap,cur,q1,q2,q3,q4,q5,q6,q7,q8,q9,nL⟩⟩:=h
 ·exact⟨b,p,_,none,h1,h2,h3,h4,h5,h6,.inl ⟨rfl,rfl,rfl⟩,fun k hk=>(by cases hk)⟩
 ·exact⟨b,p,v,some r,h1,h2,h3,h4,h5,h6,.inr ⟨r,cap,cur,rfl,q1,q5,q6,q7,q8,q9,nL⟩,fun k hk=>(by cases hk;exact⟨q2,q3,q4⟩)⟩
theorem ZA{id:Nat}{T e:TypeId}{s:List Nat}{b:Nat}{p v:Value}{r:Option Nat}(h:Cm g own w id T e s b p v r):tR g own LC w id (.nX T e s):=by
 refine⟨b,h.mb,h.owned,h.im,p,v,h.heap,h.ptr,h.bytes,?_⟩;rcases h.row with⟨h1,h2,h3⟩|⟨r',cap,cur,hr,q1,q5,q6,q7,q8,q9,nL⟩
 ·exact .inl ⟨h1,h2⟩
 ·obtain⟨k1,k2,k3⟩:=h.rp r' hr;exact .inr ⟨r',cap,cur,q1,k1,k2,k3,q5,q6,q7,q8,q9,nL⟩
theorem Zz{id:Nat}{T e:TypeId}{s:List Nat}{b:Nat}{p v:Value}{r:Option Nat}(h:Cm g own w id T e s b p v r):b<w.heap.size:=(An.1 h.heap).1
theorem ZB(hm:bc g own LC mem w)(ho:bT base own w)(eH:ni g gl){id:Nat}{T e:TypeId}{s s':List Nat}{b:Nat}{p v p' v':Value}{r r':Option Nat}(hid:id<mem.ε.length)
  (hb:Cm g own w id T e s b p v r) (aL:w.heap.size<=w'.heap.size) (NI:w'.os=w.os) (N0:w'.tape=w.tape) (NJ:w'.output=w.output)
  (hk:∀k,k<w.heap.size->k≠b->r≠some k->w'.heap[k]?=w.heap[k]?)
  (hh:w'.heap[b]?=some (.cells #[p',v'] T (0,0))) (hp:p'= .pointer none\/p'= .pointer (some ⟨b,0,none⟩)) (hs:∀x∈s',x<256) (gH:pL w' e s' v' r')
  (hr:r'=r\/∃k,r'=some k/\w.heap.size<=k) {rv:AV} {x:Value} (hv:VR g bV rv x):lW base LC gl g own w rv (mem.put id (.nX T e s') true) x w':=by
 have Bl:=hb.owned;have hold:∀k,k<w.heap.size->r'=some k->r=some k:=by
  intro k df NU;rcases hr with h|⟨k0,h,dD⟩
  ·rw[<-h];exact NU
  ·rw[h]at NU;cases NU;omega
 let aD:OW:=fun k=>if r'=some k then some (.m id)else eD own k;have eQ:∀k,r'=some k->k<w'.heap.size:=by
  intro k df;rcases gH with⟨_,_,h3⟩|⟨g1,cap,cur,h1,_,_,h4,_⟩
  ·rw[h3]at df;cases df
  ·rw[h1]at df;cases df;exact(An.1 h4).1
 have φ:∀k mW,own k=some (.m mW)->mW≠id->k<w.heap.size/\k≠b/\r≠some k/\r'≠some k:=by
  intro k mW df φ;have ψ:=(ho.ge k _ df).2;have h2:r≠some k:=fun h=>by have:=(hb.rp k h).1;rw[this]at df;cases df;exact φ rfl
  exact⟨ψ,fun h=>(by rw[h,Bl]at df;cases df;exact φ rfl),h2,fun h=>h2 (hold k ψ h)⟩
 have Ng:∀k o y,g.im k o=some y->k≠b/\r≠some k:=fun k o y hy=>⟨fun h=>(by rw[h,hb.im]at hy;cases hy),fun h=>(by rw[(hb.rp k h).2.2]at hy;cases hy)⟩;refine⟨g,aD,⟨g.eS,aL,NI,N0,NJ,fun k ψ hn=>?_,fun k ψ hn=>?_,fun _ _ _ _=>rfl⟩,⟨fun i c hc=>?_,fun t n y hy=>?_,fun i blk hi=>?_,fun k o y hy=>?_⟩,hv,⟨fun k o DM=>?_,va ho.base aL⟩,fun k d hd=>?_,eH⟩
 ·refine hk k ψ (fun h=>?_) (fun h=>?_)
  ·rw[h,wa Bl]at hn;cases hn
  ·rw[wa (hb.rp k h).1]at hn;cases hn
 ·simp only[aD];split
  ·rename_i h;rw[wa (hb.rp k (hold k ψ h)).1]at hn;cases hn
  ·exact hn
 ·simp only[Mem.put,nq];exact hm.jx i c hc
 ·simp only[Mem.put,nq];exact hm.nO t n y hy
 ·simp only[Mem.put,wH]at hi;split at hi
  ·rename_i zb;subst zb;simp only[bh]at hi;subst hi;refine ZA ⟨hb.mb,?_,hb.im,hh,hp,hs,gH,fun k df=>⟨by simp only[aD];rw[if_pos df],?_,fun o=>?_⟩⟩
   ·simp only[aD];split
    ·rfl
    ·exact wa Bl
   ·intro h;have ψ:=Zz hb;exact(hb.rp k (hold k (by omega) df)).2.1 h
   ·cases hx:g.im k o with
    |none=>rfl
    |some y=>
     have h1:=wP (hm.im k o y hx)
     have:=(hb.rp k (hold k h1 df)).2.2 o;rw[this]at hx;cases hx
  ·rename_i zb;refine(hm.blk i blk hi).bf g.eS (fun k df=>?_) (fun _ h=>h) (fun h=>h);obtain⟨k1,k2,k3,k4⟩:=φ k i df (fun h=>zb h.symm);exact⟨by simp only[aD];rw[if_neg k4,wa df,df],hk k k1 k2 k3,fun _=>rfl⟩
 ·have hc:=hm.im k o y hy;obtain⟨k1,k2⟩:=Ng k o y hy;rw[qC (hk k (wP hc) k1 k2)];exact hc
 ·simp only[aD]at DM;split at DM
  ·rename_i h;refine⟨?_,eQ k h⟩;rcases da k w.heap.size with hl|hl
   ·exact(ho.ge k _ (hb.rp k (hold k hl h)).1).1
   ·exact va ho.base hl
  ·have:=ho.ge k o (uP DM).1;exact⟨this.1,ku this.2 aL⟩
 ·simp only[aD]at hd;split at hd
  ·cases hd
  ·obtain⟨_,i,h⟩:=uP hd;cases h
theorem Zy(hm:bc g own LC mem w)(ho:bT base own w)(eH:ni g gl){id:Nat}{T e:TypeId}{s:List Nat}{b:Nat}{p v:Value}{r:Option Nat}
  (hb:Cm g own w id T e s b p v r) (aL:w.heap.size<=w'.heap.size) (NI:w'.os=w.os) (N0:w'.tape=w.tape) (NJ:w'.output=w.output)
  (hk:∀k,k<w.heap.size->r≠some k->w'.heap[k]?=w.heap[k]?) {rv:AV} {x:Value} (hv:VR g bV rv x):lW base LC gl g own w rv (mem.put id .dead true) x w':=by
 have Ng:∀k o y,g.im k o=some y->r≠some k:=fun k o y hy h=>by rw[(hb.rp k h).2.2]at hy;cases hy
 refine⟨g,eD own,⟨g.eS,aL,NI,N0,NJ,fun k ψ hn=>?_,fun k ψ hn=>by simpa[eD]using hn,fun _ _ _ _=>rfl⟩,⟨fun i c hc=>?_,fun t n y hy=>?_,fun i blk hi=>?_,fun k o y hy=>?_⟩,hv,⟨fun k o DM=>?_,va ho.base aL⟩,fun k d hd=>?_,eH⟩
 ·refine hk k ψ (fun h=>?_);rw[wa (hb.rp k h).1]at hn;cases hn
 ·simp only[Mem.put,nq];exact hm.jx i c hc
 ·simp only[Mem.put,nq];exact hm.nO t n y hy
 ·simp only[Mem.put,wH]at hi;split at hi
  ·split at hi
   ·cases hi;trivial
   ·cases hi
  ·rename_i zb;refine(hm.blk i blk hi).bf g.eS (fun k df=>?_) (fun _ h=>h) (fun h=>h);refine⟨by rw[wa df,df],hk k (ho.ge k _ df).2 (fun h=>?_),fun _=>rfl⟩;have:=(hb.rp k h).1;rw[df]at this;cases this;exact zb rfl
 ·have hc:=hm.im k o y hy;rw[qC (hk k (wP hc) (Ng k o y hy))];exact hc
 ·have:=ho.ge k o (uP DM).1;exact⟨this.1,ku this.2 aL⟩
 ·obtain⟨_,i,h⟩:=uP hd;cases h
end
def fq(n:Nat):List Nat:=if n<10 then[48+n]else[48+n/10,48+n % 10]
def xU:Prim:=fun args m=>match args with
 |[.int .i64 n]=>if 0<=n/\n<100 then some (.str (fq n.toNat),m)else none
 |_=>none
def zK:Nat->List Nat->Option Nat
 |acc,[]=>some acc
 |acc,b::r=>if 48<=b/\b<=57 then zK (acc*10+(b-48)) r else none
def ca(b:Nat):Bool:=decide (48<=b)&&decide (b<=57)
def uQ(te:TypeId):Prim:=fun args m=>match args with
 |[.str s]=>match s with
  |[]=>some (.aQ [.int .i64 0,.iface te .cY],m)
  |b::r=>if r.length<=17/\ca b=true then(zK 0 (b::r)).map fun(n:Nat)=>(.aQ [.int .i64 (n:Int),.gy],m)else none
 |_=>none
def Ce:List AV->Option (List (List Nat))
 |[]=>some []
 | .str s::l=>(Ce l).map (s::·)
 |_=>none
def mj(sep:List Nat):List (List Nat)->List Nat
 |[]=>[]
 |[x]=>x
 |x::l=>x++sep++mj sep l
def xV:Prim:=fun args m=>match args with
 |[.list _ [],.str _]=>some (.str [],m)
 |[.list _ (x::l),.str sep]=>match Ce (x::l)with
  |some l=>if(mj sep l).length<=140737488355328/\l.length<=140737488355328 then some (.str (mj sep l),m)else none
  |none=>none
 |_=>none
def jD(c:Nat):List Nat->Nat->Option Nat
 |[],_=>none
 |b::r,i=>if b=c then some i else jD c r (i+1)
def xT:Prim:=fun args m=>match args with
 |[.str s,.int .u8 c]=>if 0<=c/\c<256 then some (.int .i64 (match jD c.toNat s 0 with
   |some i=>(i:Int)
   |none=> -1),m)else none
 |_=>none
def xS:Prim:=fun args m=>match args with
 |[.map id]=>match m.ε[id]? with
  |some (.map es)=>some (.map m.ε.length,m.push (.map es))
  |_=>none
 |_=>none
def xX(T e:TypeId):Prim:=fun args m=>match args with
 |[.μ id 0,.str s]=>match m.ε[id]? with
  |some (.nX T' e' t)=>if T'=T/\e'=e/\t.length+s.length<=140737488355328 then some (.aQ [.int .i64 s.length,.gy],m.put id (.nX T e (t++s)) true)else none
  |_=>none
 |_=>none
def xW(T e:TypeId):Prim:=fun args m=>match args with
 |[.μ id 0]=>match m.ε[id]? with
  |some (.nX T' e' t)=>if T'=T/\e'=e then some (.str t,m.put id .dead true)else none
  |_=>none
 |_=>none
def uR(v:AV):Prim:=fun args m=>match args with
 |[]=>some (v,m)
 |_=>none
section
variable{P:Program}{gl:Nat->AV}{base:Nat}{LC:eY}{f:FuncId}{fn:Func}
theorem Jq(hf:P.funcs[f]?=some fn)(hb:fn.body.isNone=false)(hn:(fn.name== "runtime.NumGoroutine")=false){p:Prim}
  (h:∀(g:Gh) (own:OW) (mem:Mem) (w:World) (args:List AV) (r:AV) (m':Mem) (bK:Array Value),bc g own LC mem w->bT base own w->ni g gl->PW (VR g bV) args bK.toList->p args mem=some (r,m')→
   m'=mem/\Calls P f bK w fun e w'=>∃x,e= .returned x/\VR g bV r x/\Below w.heap.size w w'):mF Fence.wide P base LC gl f p:=by
 intro n g own mem w args r m' bK hm ho eH cO hp;obtain⟨rfl,hc⟩:=h g own mem w args r m' bK hm ho eH cO hp;refine FV hf hb hn (callsIn_wide.2 (hc.mono fun e w' he=>?_));obtain⟨x,rfl,hx,hB⟩:=he;exact⟨x,rfl,Z' hm ho eH hB hx⟩
theorem Ys{g:Gh}{lb:LB}{k:IntKind}{n:Int}{x:Value}(h:VR g lb (.int k n) x):x= .int k n:=by cases h;rfl
theorem Aj{g:Gh}{lb:LB}{s:List Nat}{x:Value}(h:VR g lb (.str s) x):∃b:ByteArray,x= .string b/\b.data.toList.map UInt8.toNat=s:=by cases h;exact⟨_,rfl,by assumption⟩
theorem Yr{g:Gh}{lb:LB}{s:List Nat}{l:List UInt8}(h:l.map UInt8.toNat=s):VR g lb (.str s) (.string ⟨l.toArray⟩):= .str _ _ _ (by simpa using h)
theorem aaL(i:Nat)(hi:i<100):(Lib.decDigits i).map UInt8.toNat=fq i:=by
 have:∀j:Fin 100,(Lib.decDigits j.val).map UInt8.toNat=fq j.val:=by decide+kernel
 exact this ⟨i,hi⟩
theorem agF(hf:P.funcs[f]?=some fn)(hb:fn.body.isNone=false)(hn:(fn.name== "runtime.NumGoroutine")=false)
  (h:∀(i:Nat),i<100->∀w,Calls P f #[.int .i64 i] w fun e w'=>e= .returned (.string ⟨(Lib.decDigits i).toArray⟩)/\w'=w):mF Fence.wide P base LC gl f xU:=by
 refine Jq hf hb hn fun g own mem w args r m' bK hm ho eH cO hp=>?_;unfold xU at hp;split at hp
 ·rename_i n;split at hp
  ·rename_i hr;simp only[bh,aA]at hp;obtain⟨rfl,rfl⟩:=hp;obtain⟨x,rfl,hx⟩:=ET cO;cases Ys hx;obtain⟨i,rfl⟩:=Int.eq_ofNat_of_zero_le hr.1;have hi:i<100:=by omega
   refine⟨rfl,(h i hi w).mono fun e w' he=>?_⟩;obtain⟨rfl,rfl⟩:=he;exact⟨_,rfl,Yr (by simpa using aaL i hi),Below.refl _ _⟩
  ·cases hp
 ·cases hp
theorem agr(l:List UInt8)(acc:Nat):zK acc (l.map UInt8.toNat)=Lib.decFrom acc l:=by
 induction l generalizing acc with
 |nil=>rfl
 |cons b r ih=>
  simp only[az,zK,Lib.decFrom,Lib.digitVal]
  by_cases h:48<=b.toNat/\b.toNat<=57
  ·rw[if_pos h,if_pos h];exact ih _
  ·rw[if_neg h,if_neg h]
theorem agC(te:TypeId)(hf:P.funcs[f]?=some fn)(hb:fn.body.isNone=false)(hn:(fn.name== "runtime.NumGoroutine")=false)
  (h:∀(s:ByteArray) (n:Int),s.size<=18->Lib.atoi s.data.toList=some n->∀w,Calls P f #[.string s] w fun e w'=>e= .returned (.tuple #[.int .i64 n,.nilIface])/\Below w.heap.size w w')
  (h0:∀w g,ni g gl->(∀b o x,g.im b o=some x->w.cell? ⟨b,o,none⟩=some x)->Calls P f #[.string .empty] w fun e w'=>∃N,e= .returned (.tuple #[.int .i64 0,.iface te (.pointer (some ⟨N,0,none⟩))])/\Below w.heap.size w w'):
  mF Fence.wide P base LC gl f (uQ te):=by
 refine Jq hf hb hn fun g own mem w args r m' bK hm ho eH cO hp=>?_;unfold uQ at hp;split at hp
 ·rename_i s;split at hp
  ·simp only[bh,aA]at hp;obtain⟨rfl,rfl⟩:=hp;obtain⟨x,rfl,hx⟩:=ET cO;obtain⟨bs,rfl,fM⟩:=Aj hx;have he:bs= .empty:=by obtain⟨⟨l⟩⟩:=bs;simp at fM;subst fM;rfl
   subst he;refine⟨rfl,(h0 w g eH hm.im).mono fun e w' he=>?_⟩;obtain⟨N,rfl,hB⟩:=he;refine⟨_,rfl,.aQ _ _ _ rfl (fun i hi ae=>?_),hB⟩
   match i,hi with
   |0,_=>exact .int _ _ _
   |1,_=>exact .iface _ _ _ _ (.cY _ _ rfl)
  ·rename_i b r';split at hp
   ·rename_i hc;simp only[bD,aA]at hp;obtain⟨n,gF,rfl,rfl⟩:=hp;obtain⟨x,rfl,hx⟩:=ET cO;obtain⟨bs,rfl,fM⟩:=Aj hx;have aL:bs.size=r'.length+1:=by have:=congrArg lC fM;simpa using this
    rw[<-fM,agr]at gF;have jz:Lib.atoi bs.data.toList=some (n:Int):=by
     cases hl:bs.data.toList with
     |nil=>rw[hl]at fM;cases fM
     |cons u r2=>
      rw[hl]at fM gF
      simp only[az,List.cons.injEq]at fM;have hu:48<=u.toNat/\u.toNat<=57:=by have:=hc.2;simp only[ca,Bool.and_eq_true,decide_eq_true_eq]at this;rw[fM.1];exact this
      have e1:(u==45)=false:=by rw[beq_eq_false_iff_ne];rintro rfl;exact absurd hu.1 (by decide)
      have e2:(u==43)=false:=by rw[beq_eq_false_iff_ne];rintro rfl;exact absurd hu.1 (by decide)
      simp only[Lib.atoi,e1,e2,Bool.false_eq_true,if_false,Lib.decNat,List.isEmpty_cons,gF,qx]
    refine⟨rfl,(h bs n (by omega) jz w).mono fun e w' he=>?_⟩;obtain⟨rfl,hB⟩:=he;refine⟨_,rfl,.aQ _ _ _ rfl (fun i hi ae=>?_),hB⟩
    match i,hi with
    |0,_=>exact .int _ _ _
    |1,_=>exact .gy _
   ·cases hp
 ·cases hp
theorem adm(c:Nat)(l:List Nat)(i:Nat):jD c l i=(jD c l 0).map (·+i):=by
 induction l generalizing i with
 |nil=>rfl
 |cons b r ih=>
  simp only[jD]
  split
  ·simp
  ·rw[ih (i+1),ih (0+1)];cases jD c r 0<;>simp[Nat.add_comm,Nat.add_left_comm]
theorem adl(c:UInt8)(l:List UInt8):(match jD c.toNat (l.map UInt8.toNat) 0 with
  |some i=>(i:Int)
  |none=> -1)=Lib.indexByte l c:=by
 induction l with
 |nil=>rfl
 |cons b r ih=>
  simp only[az,jD,Lib.indexByte]
  by_cases h:b=c
  ·subst h;simp
  ·have h1:¬b.toNat=c.toNat:=fun e=>h (UInt8.toNat_inj.1 e);have h2:(b==c)=false:=by simpa using h
   rw[if_neg h1,adm,h2];cases hx:jD c.toNat (r.map UInt8.toNat) 0 with
   |none=>rw[hx]at ih;simp only at ih;simp[<-ih]
   |some k=>
    rw[hx]at ih
    simp only at ih;have:((k:Int)== -1)=false:=by rw[beq_eq_false_iff_ne];omega
    simp[<-ih,this]
theorem agE(hf:P.funcs[f]?=some fn)(hb:fn.body.isNone=false)(hn:(fn.name== "runtime.NumGoroutine")=false)
  (h:∀(s:ByteArray) (c:Int) (w:World),Calls P f #[.string s,.int .u8 c] w fun e w'=>e= .returned (.int .i64 (Lib.indexByte s.data.toList c.toNat.toUInt8))/\w'=w):mF Fence.wide P base LC gl f xT:=by
 refine Jq hf hb hn fun g own mem w args r m' bK hm ho eH cO hp=>?_;unfold xT at hp;split at hp
 ·rename_i s c;split at hp
  ·rename_i hc;simp only[bh,aA]at hp;obtain⟨rfl,rfl⟩:=hp;obtain⟨x,y,rfl,hx,hy⟩:=Js cO;obtain⟨bs,rfl,rfl⟩:=Aj hx;cases Ys hy;refine⟨rfl,(h bs c w).mono fun e w' he=>?_⟩;obtain⟨rfl,rfl⟩:=he;refine⟨_,rfl,?_,Below.refl _ _⟩;have mR:c.toNat=(c.toNat.toUInt8).toNat:=by rw[Nat.toUInt8_eq,UInt8.toNat_ofNat'];omega
   have:=adl c.toNat.toUInt8 bs.data.toList;rw[<-mR]at this;rw[this];exact .int _ _ _
  ·cases hp
 ·cases hp
theorem aj_{l:List AV}{ss:List (List Nat)}(h:Ce l=some ss):l=ss.map .str:=by
 induction l generalizing ss with
 |nil=>cases h;rfl
 |cons a l ih=>
  cases a<;>simp only[Ce]at h<;>first|(cases h;done)|skip
  simp only[bD]at h;obtain⟨t,ht,rfl⟩:=h;simp[ih ht]
theorem adz(sep:List UInt8)(l:List (List UInt8)):mj (sep.map UInt8.toNat) (l.map (·.map UInt8.toNat))=(Lib.join l sep).map UInt8.toNat:=by
 induction l with
 |nil=>rfl
 |cons x l ih=>
  cases l with
  |nil=>simp[mj,Lib.join_one]
  |cons y l=>
   rw[Lib.join_cons]
   rw[Lib.join_cons]at ih;simp only[az,mj]at ih⊢;rw[ih];simp[Lib.joinTail]
theorem agG(hf:P.funcs[f]?=some fn)(hb:fn.body.isNone=false)(hn:(fn.name== "runtime.NumGoroutine")=false)
  (h0:∀(a:Option Addr) (c:Nat) (sep:ByteArray) (w:World),Calls P f #[.slice a 0 c,.string sep] w fun e w'=>e= .returned (.string ⟨#[]⟩)/\w'=w)
  (h:∀(bk o c:Nat) (xs:List ByteArray) (sep:ByteArray) (w:World),(∀(j:Nat) x,xs[j]?=some x->w.cell? ⟨bk,o+j,none⟩=some (.string x))->bk<w.heap.size->xs.length<=140737488355328->xs.length<=c→
   (Lib.join (xs.map (·.data.toList)) sep.data.toList).length<=140737488355328→
   Calls P f #[.slice (some ⟨bk,o,none⟩) xs.length c,.string sep] w fun e w'=>e= .returned (.string ⟨(Lib.join (xs.map (·.data.toList)) sep.data.toList).toArray⟩)/\Below w.heap.size w w'):mF Fence.wide P base LC gl f xV:=by
 refine Jq hf hb hn fun g own mem w args r m' bK hm ho eH cO hp=>?_;unfold xV at hp;split at hp
 ·rename_i c sep;simp only[bh,aA]at hp;obtain⟨rfl,rfl⟩:=hp;obtain⟨xv,yv,rfl,hx,hy⟩:=Js cO;obtain⟨sb,rfl,rfl⟩:=Aj hy;obtain⟨a,cap,rfl⟩:∃a cap,xv= .slice a 0 cap:=by
   cases hx with
   |iU=>exact⟨_,_,rfl⟩
   |iw _ _ a cap=>exact⟨_,_,rfl⟩
   |list _ _ _ b o sz n cap xs hn=>simp at hn;subst hn;exact⟨_,_,rfl⟩
  refine⟨rfl,(h0 a cap sb w).mono fun e w' he=>?_⟩;obtain⟨rfl,rfl⟩:=he;exact⟨_,rfl,.str _ _ _ rfl,⟨rfl,rfl,rfl,bS _,fun _ _=>rfl⟩⟩
 ·rename_i c x l sep;split at hp
  ·rename_i ss vS;split at hp
   ·rename_i hlen;simp only[bh,aA]at hp;obtain⟨rfl,rfl⟩:=hp;have jZ:=aj_ vS;obtain⟨xv,yv,rfl,hx,hy⟩:=Js cO;obtain⟨sb,rfl,rfl⟩:=Aj hy;rw[jZ]at hx;have φ:ss≠[]:=by rintro rfl;cases jZ
    obtain⟨bk,o,cap,vs,rfl,dQ,-,dK,cC⟩:=hx.flat (sz:=1) (fun e he=>by obtain⟨s,_,rfl⟩:=eP.1 he;rfl) (by simpa using φ);have Iw:vs.length=ss.length:=by have:=dK.1;simpa using this
    have qV:∀j,j<ss.length->∃bs:ByteArray,vs[j]?=some (.string bs)/\bs.data.toList.map UInt8.toNat=ss.getD j []:=by
     intro j hj;have e0:(ss.map AV.str)[j]'(by simpa using hj)= .str ss[j]:=by simp
     have hv:=dK.2.2.2 j (by simpa using hj) 0 (by rw[e0];simp[AV.cells]) (by omega);simp only[e0,AV.cells,kJ,Nat.mul_one,Nat.add_zero]at hv;obtain⟨bs,h1,h2⟩:=Aj hv;refine⟨bs,?_,?_⟩
     ·rw[dn (by omega),h1]
     ·rw[h2,nT,dn hj];rfl
    let xs:List ByteArray:=(ry ss.length).map fun j=>match(vs[j]?:Option Value)with
     |some (Value.string b)=>b
     |_=> .empty
    have sk:xs.length=ss.length:=by simp[xs]
    have Oa:∀j (hj:j<ss.length),∃bs:ByteArray,xs[j]?=some bs/\vs[j]?=some (.string bs)/\bs.data.toList.map UInt8.toNat=ss[j]:=by intro j hj;obtain⟨bs,h1,h2⟩:=qV j hj;refine⟨bs,?_,h1,by rw[h2,nT,dn hj];rfl⟩;simp[xs,hj,h1]
    have zg:(xs.map (·.data.toList)).map (·.map UInt8.toNat)=ss:=by
     apply List.ext_getElem (by simp[sk]);intro j h1 h2;obtain⟨bs,k1,k2,k3⟩:=Oa j h2;have hjx:j<xs.length:=by omega
     rw[dn hjx]at k1;cases k1;simpa using k3
    have hj:=adz sb.data.toList (xs.map (·.data.toList));rw[zg]at hj;rw[hj]at hlen⊢;simp only[cg]at hlen;have hle:ss.length<=cap:=by simpa using dQ
    have nC:∀(j:Nat) x,xs[j]?=some x->w.cell? ⟨bk,o+j,none⟩=some (.string x):=by
     intro j y mh;have rX:j<ss.length:=by rw[<-sk];exact(fB.1 mh).1
     obtain⟨bs,k1,k2,-⟩:=Oa j rX;rw[k1]at mh;cases mh;exact hm.im _ _ _ (cC j _ k2)
    have h0:0<ss.length:=List.length_pos_iff.2 φ;have MO:bk<w.heap.size:=by obtain⟨bs,k1,-,-⟩:=Oa 0 h0;exact wP (nC 0 bs k1)
    have hc:=h bk o cap xs sb w nC MO (by omega) (by omega) hlen.1;rw[sk]at hc;rw[cg];refine⟨rfl,hc.mono fun e w' he=>?_⟩;obtain⟨rfl,hB⟩:=he;exact⟨_,rfl,Yr rfl,hB⟩
   ·cases hp
  ·cases hp
 ·cases hp
theorem aaq{g:Gh}{own:OW}{mem:Mem}{w:World}(hm:bc g own LC mem w)(ho:bT base own w)(eH:ni g gl){id:Nat}{es:List (AV×AV)}(hb:mem.ε[id]?=some (.map es)){b:Nat}(jA:g.mb id=some b):
  ∃a clock,w.heap[b]?=some (.map a clock)/\lW base LC gl g own w (.map mem.ε.length) (mem.push (.map es)) (.map (some w.heap.size)) (w.alloc (.map a clock)):=by
 obtain⟨b',h1,h2,h3,a,clock,h4,h5,h6,h7⟩:=hm.blk id _ hb;rw[jA]at h1;cases h1;refine⟨a,clock,h4,?_⟩;have lP:=hm.eD;have r9:=ho.eD;have cC:∀o,g.im w.heap.size o=none:=xJ hm;let g':Gh:= {g with mb:=fun id=>if id=mem.ε.length then some w.heap.size else g.mb id};have dh:g.sub g':=⟨fun _ _ _ h=>h,fun id b hb=>by
  have:=hm.jx id b hb
  simp only[g'];rw[if_neg (by omega)];exact hb,fun _ _ _ h=>h⟩
 have Ω:=eE.alloc g (eD own) w (.map a clock) (some (.m mem.ε.length));refine⟨g',_,⟨dh,Ω.size,Ω.os,Ω.tape,Ω.output,Ω.bf,Ω.jI,Ω.im⟩,?_,.map _ _ _ (by simp[g']),r9.alloc _ _,fun b d hb=>?_,eH.mono dh⟩
 ·refine lP.push (lP.alloc r9 _ _) _ _ (fun id b hb=>?_) (fun id hid=>?_) ?_
  ·split at hb
   ·exact .inr (by assumption)
   ·exact .inl hb
  ·exact if_neg (by omega)
  ·exact⟨w.heap.size,by simp,by simp[gP],cC,a,clock,qK w _,h5,fun i hi ae=>⟨(h6 i hi ae).1.sub dh,(h6 i hi ae).2.sub dh⟩,h7⟩
 ·unfold gP at hb;split at hb
  ·cases hb
  ·obtain⟨_,i,h⟩:=uP hb;cases h
theorem agD(hf:P.funcs[f]?=some fn)(hb:fn.body.isNone=false)(hn:(fn.name== "runtime.NumGoroutine")=false)
  (h:∀(b:Nat) (es:Array MapEntry) (clock:Nat) (w:World),w.heap[b]?=some (.map es clock)→
   Calls P f #[.map (some b)] w fun e w'=>e= .returned (.map (some w.heap.size))/\w'=w.alloc (.map es clock)):mF Fence.wide P base LC gl f xS:=by
 intro n g own mem w args r m' bK hm ho eH cO hp;unfold xS at hp;split at hp
 ·rename_i id;split at hp
  ·rename_i es gM;simp only[bh,aA]at hp;obtain⟨rfl,rfl⟩:=hp;obtain⟨x,rfl,hx⟩:=ET cO;cases hx with
   |map _ _ b jA=>
    obtain⟨a,clock,h1,h2⟩:=aaq hm ho eH gM jA
    refine FV hf hb hn (callsIn_wide.2 ((h b a clock w h1).mono fun e w' he=>?_));obtain⟨rfl,rfl⟩:=he;exact⟨_,rfl,h2⟩
  ·cases hp
 ·cases hp
theorem ahy:∀args m r m',xS args m=some (r,m')->KM m m':=by
 intro args m r m' hp;unfold xS at hp;split at hp
 ·split at hp
  ·simp only[bh,aA]at hp;obtain⟨rfl,rfl⟩:=hp;exact KM.push _ _
  ·cases hp
 ·cases hp
def Qa(w w':World)(b:Nat)(r:Option Nat):Prop:=
 w.heap.size<=w'.heap.size/\w'.os=w.os/\w'.tape=w.tape/\w'.output=w.output/\∀k,k<w.heap.size->k≠b->r≠some k->w'.heap[k]?=w.heap[k]?
theorem agI{T e:TypeId}(hf:P.funcs[f]?=some fn)(hb:fn.body.isNone=false)(hn:(fn.name== "runtime.NumGoroutine")=false)
  (h:∀(b:Nat) (s:ByteArray) (p v:Value) (r:Option Nat) (q:List Nat) (w:World),w.heap[b]?=some (.cells #[p,v] T (0,0))->(p= .pointer none\/p= .pointer (some ⟨b,0,none⟩))->pL w e q v r->r≠some b→
   q.length+s.size<=140737488355328→
   Calls P f #[.pointer (some ⟨b,0,none⟩),.string s] w fun en w'=>en= .returned (.tuple #[.int .i64 s.size,.nilIface])/\Qa w w' b r/\∃p' v' r',w'.heap[b]?=some (.cells #[p',v'] T (0,0))∧
    (p'= .pointer none\/p'= .pointer (some ⟨b,0,none⟩))/\pL w' e (q++s.data.toList.map UInt8.toNat) v' r'/\(r'=r\/∃k,r'=some k/\w.heap.size<=k)):
  mF Fence.wide P base LC gl f (xX T e):=by
 intro n g own mem w args r m' bK hm ho eH cO hp;unfold xX at hp;split at hp
 ·rename_i id s;split at hp
  ·rename_i T' e' t gM;split at hp
   ·rename_i hc;obtain⟨rfl,rfl,hlen⟩:=hc;simp only[bh,aA]at hp;obtain⟨rfl,rfl⟩:=hp;obtain⟨x,y,rfl,hx,hy⟩:=Js cO;obtain⟨bs,rfl,rfl⟩:=Aj hy;have eC:(bs.data.toList.map UInt8.toNat).length=bs.size:=by rw[cg,wC];rfl
    cases hx with
    |μ _ _ _ b jA=>
     obtain⟨b',p,v,E0,pX⟩:=QK (hm.blk id _ gM)
     have:=pX.mb;rw[jA]at this;cases this;have xB:E0≠some b:=fun he=>(pX.rp b he).2.1 rfl;refine FV hf hb hn (callsIn_wide.2 ((h b bs p v E0 t w pX.heap pX.ptr pX.row xB (by omega)).mono fun en w' he=>?_));obtain⟨rfl,⟨k1,k2,k3,k4,k5⟩,p',v',r',k6,k7,k8,k9⟩:=he;refine⟨_,rfl,ZB hm ho eH (fB.1 gM).1 pX k1 k2 k3 k4 k5 k6 k7 (fun z hz=>?_) k8 k9 (.aQ _ _ _ rfl fun i hi ae=>?_)⟩
     ·rcases List.mem_append.1 hz with hz|hz
      ·exact pX.bytes z hz
      ·obtain⟨u,_,rfl⟩:=eP.1 hz;exact u.toNat_lt
     ·rw[eC]at hi
      match i,hi with
      |0,_=>simp only[eC];exact .int _ _ _
      |1,_=>exact .gy _
   ·cases hp
  ·cases hp
 ·cases hp
theorem agH{T e:TypeId}(hf:P.funcs[f]?=some fn)(hb:fn.body.isNone=false)(hn:(fn.name== "runtime.NumGoroutine")=false)
  (h:∀(b:Nat) (p v:Value) (r:Option Nat) (q:List Nat) (w:World),w.heap[b]?=some (.cells #[p,v] T (0,0))->pL w e q v r->r≠some b->(∀x∈q,x<256)→
   Calls P f #[.pointer (some ⟨b,0,none⟩)] w fun en w'=>∃bs:ByteArray,en= .returned (.string bs)/\bs.data.toList.map UInt8.toNat=q∧
    w.heap.size<=w'.heap.size/\w'.os=w.os/\w'.tape=w.tape/\w'.output=w.output/\∀k,k<w.heap.size->r≠some k->w'.heap[k]?=w.heap[k]?):
  mF Fence.wide P base LC gl f (xW T e):=by
 intro n g own mem w args r m' bK hm ho eH cO hp;unfold xW at hp;split at hp
 ·rename_i id;split at hp
  ·rename_i T' e' t gM;split at hp
   ·rename_i hc;obtain⟨rfl,rfl⟩:=hc;simp only[bh,aA]at hp;obtain⟨rfl,rfl⟩:=hp;obtain⟨x,rfl,hx⟩:=ET cO;cases hx with
    |μ _ _ _ b jA=>
     obtain⟨b',p,v,E0,pX⟩:=QK (hm.blk id _ gM)
     have:=pX.mb;rw[jA]at this;cases this;have xB:E0≠some b:=fun he=>(pX.rp b he).2.1 rfl;refine FV hf hb hn (callsIn_wide.2 ((h b p v E0 t w pX.heap pX.row xB pX.bytes).mono fun en w' he=>?_));obtain⟨bs,rfl,fM,k1,k2,k3,k4,k5⟩:=he;exact⟨_,rfl,Zy hm ho eH pX k1 k2 k3 k4 k5 (.str _ _ _ fM)⟩
   ·cases hp
  ·cases hp
 ·cases hp
theorem ahD(T e:TypeId):∀args m r m',xX T e args m=some (r,m')->KM m m':=by
 intro args m r m' hp;unfold xX at hp;split at hp
 ·split at hp
  ·split at hp
   ·simp only[bh,aA]at hp;obtain⟨rfl,rfl⟩:=hp;exact KM.set (fun _ h=>by cases h) _
   ·cases hp
  ·cases hp
 ·cases hp
theorem ahC(T e:TypeId):∀args m r m',xW T e args m=some (r,m')->KM m m':=by
 intro args m r m' hp;unfold xW at hp;split at hp
 ·split at hp
  ·split at hp
   ·simp only[bh,aA]at hp;obtain⟨rfl,rfl⟩:=hp;exact KM.set (fun _ h=>by cases h) _
   ·cases hp
  ·cases hp
 ·cases hp
theorem O9{ay:cx}{v:AV}(iR:nS Fence.wide P base LC gl ay)(hcv:∀mem,ay (.fn (.func f) [] []) [] mem=some (v,mem)):mF Fence.wide P base LC gl f (uR v):=by
 intro n g own mem w args r m' bK hm ho eH cO hp;unfold uR at hp;split at hp
 ·simp only[bh,aA]at hp;obtain⟨rfl,rfl⟩:=hp;have hv:bK= #[]:=by have h0:=cO.1;simp at h0;exact Array.size_eq_zero_iff.1 (by omega)
  subst hv;have oq:VR g bV (.fn (.func f) [] []) (.func (.func f) #[] #[]):= .fn _ _ _ _ _ _ _ rfl rfl rfl (fun i hi=>by simp at hi) (fun i hi=>by simp at hi);have:=iR n g bV own mem w _ _ _ _ _ #[] hm ho eH oq cO (hcv mem);have dZ:(do let d<-Deferred.ofValue (.func (.func f) #[] #[]) #[];invoke d.target d.args:Sem Next).run P w=(callFunc f #[]).run P w:=by simp only[Deferred.ofValue,Sem.run_bind,Sem.run_pure,Result.andThen_ok,invoke];rfl
  unfold tS at this;rw[dZ]at this;exact this
 ·cases hp
end
end Go.Θ
