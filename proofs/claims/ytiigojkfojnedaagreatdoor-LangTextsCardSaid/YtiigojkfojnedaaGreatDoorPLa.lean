import Derived.Test.YtiigojkfojnedaaGreatDoorPX
import Derived.Lib.AppendStr
import Derived.Lib.Atoi
import Derived.Lib.ItoaNum
import Derived.Lib.Join
import Derived.Lib.Bytealg
set_option linter.unusedVariables false
set_option linter.unusedSimpArgs false
open Nat renaming le_trans->xh,lt_of_lt_of_le->rP,le_max_left->xf,le_max_right->xg,lt_or_ge->bP,le_refl->bQ,zero_add->ly
open Option renaming map_eq_some_iff->bL,map_some->rR,bind_eq_some_iff->A8
open List renaming nil_append->cO,getElem_cons_zero->mY,eq_nil_of_length_eq_zero->lU,append_assoc->cr,getElem?_eq_none->iU,getElem?_append_left->eg,all_cons->ah3,all_nil->ah4,length_nil->fq,map_cons->ah,getElem?_set_ne->Dz,map_map->di,map_congr_left->dz,getElem?_eq_getElem->eo,range->rM,mem_map->jv,getD_eq_getElem?_getD->kT,getElem_map->iG,getElem_range->IF,length_map->dq,length->mB,length_append->dB,length_take->kD,length_set->ft,getElem?_set->vu,getElem?_eq_some_iff->lx
open Bool renaming and_self->vq
open Array renaming length_toList->vp,getElem?_eq_some_iff->yY
open Go.IntKind renaming u8->ah5
open Option.some renaming injEq->bj
open Prod.mk renaming injEq->aL
namespace Go.ab
open Go.RowKit (Below)
section
variable{F:Fence}{n:Nat}{P:Program}{gl:Nat->AV}{base:Nat}{LC:eX}{g:Gh}{own:OW}{mem:Mem}{w w':World}{r:AV}{x:Value}
theorem WC(hm:bc g own LC mem w)(ho:bZ base own w)(eB:mX g gl)(hb:Below w.heap.size w w')(hv:VR g cd r x):od base LC gl g own w r mem x w':=by
 obtain⟨h1,h2,h3,h4,h5⟩:=hb;refine⟨g,ez own,⟨g.eP,h4,h1,h2,h3,fun b hb _=>h5 b hb,fun _ _ h=>by simpa[ez]using h,fun _ _ _ _=>rfl⟩,?_,hv,⟨fun b o hb=>?_,xh ho.base h4⟩,fun b d hb=>?_,eB⟩
 ·refine hm.bD g.eP (fun _ h=>h) (fun _ _ h=>h) (fun id b hb=>⟨by rw[u7 hb,hb],h5 b (ho.ge b _ hb).2,fun _=>rfl⟩) (fun b o y hy=>?_);have hc:=hm.im b o y hy;rw[pO (h5 b (vF hc))];exact hc
 ·have:=ho.ge b o (tV hb).1;exact⟨this.1,rP this.2 h4⟩
 ·obtain⟨_,id,h⟩:=tV hb;cases h
theorem D8{f:FuncId}{fn:Func}{bU:Array Value}(hf:P.funcs[f]?=some fn)(hb:fn.body.isNone=false)(hn:(fn.name== "runtime.NumGoroutine")=false){R:Value->World->Prop}
  (h:CallsIn F n P f bU w fun e w'=>∃x,e= .returned x/\R x w'):Nx F n P ((callFunc f bU).run P w) w R:=
 .inl ⟨f,bU,Ia hf hb hn,h⟩
theorem C9{R:AV->Value->Prop}{a:AV}{bU:Array Value}(h:PW R [a] bU.toList):∃x,bU= #[x]/\R a x:=by
 obtain⟨l⟩:=bU
 match l,h with
 |[x],h=>exact⟨x,rfl,h.2 0 (by simp) (by simp)⟩
 |[],h=>exact absurd h.1 (by simp)
 |_::_::_,h=>exact absurd h.1 (by simp)
theorem H2{R:AV->Value->Prop}{a b:AV}{bU:Array Value}(h:PW R [a,b] bU.toList):∃x y,bU= #[x,y]/\R a x/\R b y:=by
 obtain⟨l⟩:=bU
 match l,h with
 |[x,y],h=>exact⟨x,y,rfl,h.2 0 (by simp) (by simp),h.2 1 (by simp) (by simp)⟩
 |[],h=>exact absurd h.1 (by simp)
 |[_],h=>exact absurd h.1 (by simp)
 |_::_::_::_,h=>exact absurd h.1 (by simp)
end
open Classical
noncomputable def aS(C:iT):cM:=fun fv args mem=>
 if h:∃r k,cv C k fv args mem=some r then some h.choose else none
noncomputable def fT:oX:=fun b s=>if h:∃r n,fG n b s=some r then some h.choose else none
theorem qO{C:iT}{fv args mem r}:aS C fv args mem=some r↔∃k,cv C k fv args mem=some r:=by
 unfold aS;split
 ·rename_i h;obtain⟨k,hk⟩:=h.choose_spec;constructor
  ·intro he;cases he;exact⟨k,hk⟩
  ·rintro⟨k',dm⟩
   have h1:=xu C (xf k k') _ _ _ _ hk;have h2:=xu C (xg k k') _ _ _ _ dm;rw[h1]at h2;exact h2
 ·rename_i h;constructor
  ·intro he;cases he
  ·rintro⟨k,hk⟩;exact absurd ⟨r,k,hk⟩ h
theorem NQ{b:St->Option (Ex×St)}{n m:Nat}(h:n<=m){s r}(hr:fG n b s=some r):fG m b s=some r:=
 DN n m h b b (fun _ _ h=>h) s r hr
theorem HK{b s r}:fT b s=some r↔∃n,fG n b s=some r:=by
 unfold fT;split
 ·rename_i h;obtain⟨k,hk⟩:=h.choose_spec;constructor
  ·intro he;cases he;exact⟨k,hk⟩
  ·rintro⟨k',dm⟩
   have h1:=NQ (xf k k') hk;have h2:=NQ (xg k k') dm;rw[h1]at h2;exact h2
 ·rename_i h;constructor
  ·intro he;cases he
  ·rintro⟨k,hk⟩;exact absurd ⟨r,k,hk⟩ h
theorem Bb(n:Nat)(b:St->Option (Ex×St))(s:St):fG (n+1) b s=match b s with
  |some (.normal,s')=>fG n b s'
  |r=>r:=rfl
theorem adB{b:St->Option (Ex×St)}{s s':St}(h:b s=some (.normal,s')):fT b s=fT b s':=by
 apply Option.ext;intro r;rw[HK,HK];constructor
 ·rintro⟨n,hn⟩
  cases n with
  |zero=>simp[fG]at hn
  |succ n=>rw[Bb,h]at hn;exact⟨n,hn⟩
 ·rintro⟨n,hn⟩
  exact⟨n+1,by rw[Bb,h];exact hn⟩
theorem Tj{b:St->Option (Ex×St)}{s:St}{r:Ex×St}(h:b s=some r)(hr:r.1≠ .normal):fT b s=some r:=by rw[HK];refine⟨1,?_⟩;rw[Bb,h];obtain⟨e,s'⟩:=r;cases e<;>simp_all
section
variable{C:iT}{gl:Nat->AV}
theorem VH{ev lk mem dst o r}(h:aF ev lk mem (aS C) dst o=some r):∃k,aF ev lk mem (cv C k) dst o=some r:=by
 cases o
 case call f args=>
  simp only[aF,bL]at h⊢
  obtain⟨x,hx,hr⟩:=h;obtain⟨k,hk⟩:=qO.1 hx;exact⟨k,x,hk,hr⟩
 all_goals exact⟨0,h⟩
theorem NY{o s r}(h:eu gl (aS C) o s=some r):∃k,eu gl (cv C k) o s=some r:=by
 unfold eu at h⊢;split at h
 ·cases h
 ·split at h
  ·rename_i he;obtain⟨k,hk⟩:=VH he;exact⟨k,by rw[hk];exact h⟩
  ·cases h
 ·exact⟨0,h⟩
theorem VJ{l s r}(h:eG gl (aS C) l s=some r):∃k,eG gl (cv C k) l s=some r:=by
 induction l generalizing s with
 |nil=>exact⟨0,h⟩
 |cons o l ih=>
  simp only[eG]at h⊢
  split at h
  ·rename_i s' he;obtain⟨k1,h1⟩:=NY he;obtain⟨k2,h2⟩:=ih h;refine⟨max k1 k2,?_⟩;rw[DP (xu C (xf _ _)) h1];exact NS (xu C (xg _ _)) h2
  ·cases h
theorem VL{l s r}(h:dL gl (aS C) l s=some r):∃k,dL gl (cv C k) l s=some r:=by
 induction l generalizing s r with
 |nil=>exact⟨0,h⟩
 |cons o l ih=>
  simp only[dL]at h⊢
  split at h
  ·rename_i s' he;simp only[bL]at h;obtain⟨x,hx,rfl⟩:=h;obtain⟨k1,h1⟩:=NY he;obtain⟨k2,h2⟩:=ih hx;refine⟨max k1 k2,?_⟩;rw[DP (xu C (xf _ _)) h1];simp only[NX (xu C (xg _ _)) h2,rR]
  ·cases h
theorem Vr{l cf af s r}(h:er gl (aS C) l cf af s=some r):∃k,er gl (cv C k) l cf af s=some r:=by
 unfold er at h⊢;split at h
 ·rename_i tr he;obtain⟨k,hk⟩:=VL he;exact⟨k,by rw[hk];exact h⟩
 ·cases h
theorem sd{k k':Nat}(hk:k<=k'){a:AC}{s r}(h:exec gl (cv C k) (fG k) a s=some r):exec gl (cv C k') (fG k') a s=some r:=
 JI (xu C hk) (DN _ _ hk) a s r h
theorem BK(a:AC):∀s r,exec gl (aS C) fT a s=some r->∃k,exec gl (cv C k) (fG k) a s=some r:=by
 induction a with
 |skip=>intro s r h;exact⟨0,h⟩
 |ops l=>
  intro s r h
  simp only[exec,bL]at h⊢;obtain⟨x,hx,hr⟩:=h;obtain⟨k,hk⟩:=VJ hx;exact⟨k,x,hk,hr⟩
 |draw l cf af=>
  intro s r h
  simp only[exec,bL]at h⊢;obtain⟨x,hx,hr⟩:=h;obtain⟨k,hk⟩:=Vr hx;exact⟨k,x,hk,hr⟩
 |seq a b eZ gZ=>
  intro s r h
  simp only[exec]at h;split at h
  ·rename_i s' he;obtain⟨k1,h1⟩:=eZ _ _ he;obtain⟨k2,h2⟩:=gZ _ _ h;exact⟨max k1 k2,by simp only[exec,sd (xf k1 k2) h1];exact sd (xg k1 k2) h2⟩
  ·rename_i aj;obtain⟨k1,h1⟩:=eZ _ _ h;refine⟨k1,?_⟩;simp only[exec,h1];split
   ·rename_i he;cases he;exact absurd h (aj _)
   ·rfl
 |cond x a b eZ gZ=>
  intro s r h
  simp only[exec]at h⊢;split at h
  ·split at h
   ·rename_i he ht;obtain⟨k,hk⟩:=eZ _ _ h;exact⟨k,by simp only[ht,if_true];exact hk⟩
   ·rename_i he ht;obtain⟨k,hk⟩:=gZ _ _ h;exact⟨k,by simp only[ht];exact hk⟩
  ·cases h
 |block id a eZ=>
  intro s r h
  simp only[exec]at h⊢;split at h
  ·rename_i he;obtain⟨k,hk⟩:=eZ _ _ he;exact⟨k,by rw[hk];exact h⟩
  ·rename_i aj;obtain⟨k,hk⟩:=eZ _ _ h;refine⟨k,?_⟩;rw[hk];split
   ·rename_i he;cases he;exact absurd h (aj _ _)
   ·rfl
 |loop a eZ=>
  intro s r h
  simp only[exec]at h⊢;obtain⟨n,hn⟩:=HK.1 h;have:∀n s,fG n (exec gl (aS C) fT a) s=some r->∃k,fG k (exec gl (cv C k) (fG k) a) s=some r:=by
   intro n;induction n with
   |zero=>intro s h;simp[fG]at h
   |succ n ih=>
    intro s h
    simp only[fG]at h;split at h
    ·rename_i s' he;obtain⟨k1,h1⟩:=eZ _ _ he;obtain⟨k2,h2⟩:=ih _ h;refine⟨max k1 k2+1,?_⟩;rw[Bb,sd (show k1<=max k1 k2+1 by omega) h1];exact DN _ _ (show k2<=max k1 k2 by omega) _ _ (fun s r h=>sd (show k2<=max k1 k2+1 by omega) h) _ _ h2
    ·rename_i aj;obtain⟨k1,h1⟩:=eZ _ _ h;refine⟨k1+1,?_⟩;rw[Bb,sd (show k1<=k1+1 by omega) h1];split
     ·rename_i he;cases he;exact absurd h (aj _)
     ·rfl
  exact this n s hn
 |exit id=>intro s r h;exact⟨0,h⟩
 |ret=>intro s r h;exact⟨0,h⟩
 |vd f ps fH body _ _=>
  intro s r h
  simp only[exec]at h⊢;split at h
  ·rename_i he;obtain⟨fv,h1,h2⟩:=A8.1 he;obtain⟨k,hk⟩:=qO.1 h2;refine⟨k,?_⟩;rw[h1];simp only[Option.bind_some,hk];exact h
  ·cases h
 |C7 ds=>intro s r h;exact⟨0,h⟩
 |bad=>intro s r h;exact⟨0,h⟩
theorem afA{l args mem r}(h:round (exec gl (aS C) fT) l args mem=some r):∃k,round (exec gl (cv C k) (fG k)) l args mem=some r:=by
 unfold round at h⊢;split at h
 ·split at h
  ·rename_i hlen;simp only[hlen,if_true];split at h
   ·rename_i he;obtain⟨k1,h1⟩:=BK _ _ _ he;split at h
    ·rename_i oK;split at h
     ·rename_i kJ;obtain⟨k2,h2⟩:=BK _ _ _ kJ;exact⟨max k1 k2,by simp only[sd (xf k1 k2) h1,oK,if_true,sd (xg k1 k2) h2];exact h⟩
     ·rename_i kJ;obtain⟨k2,h2⟩:=BK _ _ _ kJ;exact⟨max k1 k2,by simp only[sd (xf k1 k2) h1,oK,if_true,sd (xg k1 k2) h2];exact h⟩
     ·rename_i kJ;obtain⟨k2,h2⟩:=BK _ _ _ kJ;exact⟨max k1 k2,by simp only[sd (xf k1 k2) h1,oK,if_true,sd (xg k1 k2) h2];exact h⟩
     ·cases h
    ·cases h
   ·cases h
  ·cases h
 ·cases h
theorem uw{fv args mem r}(h:body C (aS C) fT fv args mem=some r):aS C fv args mem=some r:=by
 apply qO.2;unfold body at h;split at h
 ·split at h
  ·rename_i p hp;exact⟨1,by simp only[cv,body,hp];exact h⟩
  ·rename_i hp;split at h
   ·rename_i g hg;generalize he:exec C.gl (aS C) fT _ _=x at h;cases x with
    |none=>simp[fin]at h
    |some x=>
     obtain⟨k,hk⟩:=BK _ _ _ he
     exact⟨k+1,by simp only[cv,body,hp,hg,hk];exact h⟩
   ·cases h
 ·obtain⟨k,hk⟩:=afA h;exact⟨k+1,by simp only[cv,body];exact hk⟩
 ·cases h
end
theorem adC{b:St->Option (Ex×St)}{I:Nat->St->Prop}{iW:Ex×St->Prop}(n:Nat)
  (step:∀i s,i<=n->I i s->(∃s',b s=some (.normal,s')/\i<n/\I (i+1) s')\/(∃r,b s=some r/\r.1≠ .normal/\iW r)):
  ∀k i s,i+k=n->I i s->∃r,fT b s=some r/\iW r:=by
 intro k;induction k with
 |zero=>
  intro i s hi hI
  rcases step i s (by omega) hI with⟨s',_,h,_⟩|⟨r,h1,h2,h3⟩
  ·omega
  ·exact⟨r,Tj h1 h2,h3⟩
 |succ k ih=>
  intro i s hi hI
  rcases step i s (by omega) hI with⟨s',h1,h,h2⟩|⟨r,h1,h2,h3⟩
  ·obtain⟨r,h3,h4⟩:=ih (i+1) s' (by omega) h2;exact⟨r,by rw[adB h1];exact h3,h4⟩
  ·exact⟨r,Tj h1 h2,h3⟩
theorem adz{gl:Nat->AV}{c:cM}{a:AC}{I:Nat->St->Prop}{iW:Ex×St->Prop}(n:Nat){s:St}(h0:I 0 s)
  (step:∀i s,i<=n->I i s->(∃s',exec gl c fT a s=some (.normal,s')/\i<n/\I (i+1) s')\/(∃r,exec gl c fT a s=some r/\r.1≠ .normal/\iW r)):
  ∃r,exec gl c fT (.loop a) s=some r/\iW r:=by
 simp only[exec];exact adC n step n 0 s (by omega) h0
def κ(gl:Nat->AV)(c:cM)(a:AC)(s:St)(Q:Ex×St->Prop):Prop:=∃r,exec gl c fT a s=some r/\Q r
theorem κ.seq{gl:Nat->AV}{c:cM}{a b:AC}{s:St}{M:St->Prop}{Q:Ex×St->Prop}(h:κ gl c a s fun r=>(r.1= .normal/\M r.2)\/(r.1≠ .normal/\Q r))(k:∀s',M s'->κ gl c b s' Q):κ gl c (.seq a b) s Q:=by
 obtain⟨⟨e,s'⟩,h1,h2⟩:=h;rcases h2 with⟨rfl,h2⟩|⟨h2,h3⟩
 ·obtain⟨r,h3,h4⟩:=k s' h2;exact⟨r,by simp only[exec,h1];exact h3,h4⟩
 ·refine⟨(e,s'),?_,h3⟩;simp only[exec,h1];cases e<;>simp_all
theorem κ.seq'{gl:Nat->AV}{c:cM}{a b:AC}{s:St}{M:St->Prop}{Q:Ex×St->Prop}(h:∃s',exec gl c fT a s=some (.normal,s')/\M s')(k:∀s',M s'->κ gl c b s' Q):κ gl c (.seq a b) s Q:=by obtain⟨s',h1,h2⟩:=h;exact κ.seq ⟨_,h1,.inl ⟨rfl,h2⟩⟩ k
abbrev AV.n(x:Int):AV:= .int .i64 x
abbrev St.e(s:St)(n:Nat):AV:=bq s.env n
abbrev St.q(s:St)(n:Nat):Option (Nat×θ):=bT s.loc n
abbrev aY(B:List θ)(p:Nat)(c:List AV)(x:List θ)(T:List Nat):Mem:= {ε:=B.set p (.cells c)++x,η:=T}
theorem χ{gl:Nat→AV}{c:cM}{a b:AC}{s:St}(M:St→Prop){Q:Ex×St→Prop}(h:∃s',exec gl c fT a s=some (.normal,s')∧M s')(k:∀s',M s'→κ gl c b s' Q):κ gl c (.seq a b) s Q:=κ.seq' h k
theorem aZ{gl:Nat→AV}{c:cM}{a b:AC}{s:St}(M:St→Prop){Q:Ex×St→Prop}(h:κ gl c a s fun r=>(r.1= .normal∧M r.2)∨(r.1≠ .normal∧Q r))(k:∀s',M s'→κ gl c b s' Q):κ gl c (.seq a b) s Q:=κ.seq h k
attribute [simp] AV.n St.e St.q aY
theorem κ.block{gl:Nat->AV}{c:cM}{a:AC}{i:Nat}{s:St}{Q:Ex×St->Prop}(h:κ gl c a s fun r=>(r.1= .exit i/\Q (.normal,r.2))\/(r.1≠ .exit i/\Q r)):κ gl c (.block i a) s Q:=by
 obtain⟨⟨e,s'⟩,h1,h2⟩:=h;rcases h2 with⟨rfl,h2⟩|⟨h2,h3⟩
 ·exact⟨_,by simp only[exec,h1,if_true],h2⟩
 ·refine⟨(e,s'),?_,h3⟩;simp only[exec,h1];cases e with
  |exit j=>
   have:j≠i:=fun he=>h2 (by rw[he])
   simp only[this,if_false]
  |_=>rfl
theorem κ.loop{gl:Nat->AV}{c:cM}{a:AC}{I:Nat->St->Prop}{Q:Ex×St->Prop}(n:Nat){s:St}(h0:I 0 s)
  (step:∀i s,i<=n->I i s->(i<n/\∃s',exec gl c fT a s=some (.normal,s')/\I (i+1) s')\/(∃r,exec gl c fT a s=some r/\r.1≠ .normal/\Q r)):κ gl c (.loop a) s Q:=
 adz n h0 fun i s hi hI=>(step i s hi hI).imp (fun⟨h1,s',h2,h3⟩=>⟨s',h2,h1,h3⟩) id
theorem zc(m:Mem):m.back {ε:=m.ε,η:=[]}=m:=by cases m;simp[Mem.back,lT]
theorem V3(m:Mem)(l:List θ):m.back {ε:=m.ε++l,η:=[]}=m:=by cases m;simp[Mem.back,lT]
theorem Jc{C:iT}{f:FuncId}{g:AF}{args:List AV}{m:Mem}{ex:Ex}{s':St}{l:List AV}(hp:C.jG f=none)(hf:C.fs f=some g)(hk:C.bD f=false)
  (hx:exec C.gl (aS C) fT g.code {env:=args.map (exp m.ε.length false),loc:=[],mem:= {ε:=m.ε,η:=[]}}=some (ex,s')) (hex:∀i,ex≠ .exit i) (hl:bf s' g.results=some l):
  aS C (.fn (.func f) [] []) args m=some (ax s'.mem.ε m.ε.length 8 (ba l),m.back s'.mem):=by
 apply uw;simp only[body,hp,hf,hk,cO,List.append_nil,hx];cases ex with
 |exit i=>exact absurd rfl (hex i)
 |_=>simp only[fin,hl];rfl
theorem uv{C:iT}{f:FuncId}{g:AF}{args cap:List AV}{m:Mem}{ex:Ex}{s':St}{l:List AV}(hp:C.jG f=none)(hf:C.fs f=some g)(hk:C.bD f=true)
  (hx:exec C.gl (aS C) fT g.code {env:=(args++cap).map (exp m.ε.length true),loc:=[],mem:= {ε:=m.ε,η:=[]}}=some (ex,s')) (hex:∀i,ex≠ .exit i) (hl:bf s' g.results=some l):
  aS C (.fn (.func f) [] cap) args m=some (exp s'.mem.ε.length true (ba l),{ε:=s'.mem.ε,η:=m.η++s'.mem.η}):=by
 apply uw;simp only[body,hp,hf,hk,cO,hx];cases ex with
 |exit i=>exact absurd rfl (hex i)
 |_=>simp only[fin,hl];rfl
theorem bz{C:iT}{f:FuncId}{g:AF}{args:List AV}{m:Mem}{v:AV}(hp:C.jG f=none)(hf:C.fs f=some g)(hk:C.bD f=false)
  (hx:κ C.gl (aS C) g.code {env:=args.map (exp m.ε.length false),loc:=[],mem:= {ε:=m.ε,η:=[]}} fun r=>
   (∀i,r.1≠ .exit i)/\(∃bs,r.2.mem= {ε:=m.ε++bs,η:=[]})/\∃l,bf r.2 g.results=some l/\ax r.2.mem.ε m.ε.length 8 (ba l)=v):aS C (.fn (.func f) [] []) args m=some (v,m):=by
 obtain⟨⟨ex,s'⟩,h1,h2,⟨bs,h3⟩,l,h4,h5⟩:=hx;rw[Jc hp hf hk h1 h2 h4];dsimp only at h3 h5;rw[h5,h3,V3]
theorem κ.go{gl:Nat->AV}{c:cM}{a b:AC}{s s':St}{Q:Ex×St->Prop}(h:exec gl c fT a s=some (.normal,s'))(k:κ gl c b s' Q):κ gl c (.seq a b) s Q:=
 κ.seq' (M:=fun x=>x=s') ⟨s',h,rfl⟩ fun _ e=>e▸k
theorem κ.mono{gl:Nat->AV}{c:cM}{a:AC}{s:St}{Q Q':Ex×St->Prop}(h:κ gl c a s Q)(k:∀r,Q r->Q' r):κ gl c a s Q':=by obtain⟨r,h1,h2⟩:=h;exact⟨r,h1,k r h2⟩
theorem κ.yes{gl:Nat->AV}{c:cM}{a b:AC}{x:bp}{s:St}{Q:Ex×St->Prop}(hx:d_ gl s.env x= .bool true)(h:κ gl c a s Q):κ gl c (.cond x a b) s Q:=by obtain⟨r,h1,h2⟩:=h;exact⟨r,by simp[exec,hx,h1],h2⟩
theorem κ.no{gl:Nat->AV}{c:cM}{a b:AC}{x:bp}{s:St}{Q:Ex×St->Prop}(hx:d_ gl s.env x= .bool false)(h:κ gl c b s Q):κ gl c (.cond x a b) s Q:=by obtain⟨r,h1,h2⟩:=h;exact⟨r,by simp[exec,hx,h1],h2⟩
theorem κ.upto{gl:Nat->AV}{c:cM}{a:AC}{I:Nat->St->Prop}{Q:Ex×St->Prop}(n:Nat){s:St}(h0:I 0 s)
  (step:∀i s,i<n->I i s->κ gl c a s fun r=>(r.1= .normal/\I (i+1) r.2)\/(r.1≠ .normal/\Q r)) (last:∀s,I n s->κ gl c a s fun r=>r.1≠ .normal/\Q r):κ gl c (.loop a) s Q:=by
 refine κ.loop n h0 fun i s hi hs=>?_;rcases bP i n with h|h
 ·obtain⟨⟨e,s'⟩,h1,h2⟩:=step i s h hs;rcases h2 with⟨rfl,h2⟩|⟨h2,h3⟩
  ·exact .inl ⟨h,s',h1,h2⟩
  ·exact .inr ⟨_,h1,h2,h3⟩
 ·have:i=n:=by omega
  subst this;obtain⟨r,h1,h2,h3⟩:=last s hs;exact .inr ⟨r,h1,h2,h3⟩
theorem Sn{C:iT}{f:FuncId}{g:AF}{args cap:List AV}{m m':Mem}{v:AV}(hp:C.jG f=none)(hf:C.fs f=some g)(hk:C.bD f=true)
  (hx:κ C.gl (aS C) g.code {env:=(args++cap).map (exp m.ε.length true),loc:=[],mem:= {ε:=m.ε,η:=[]}} fun r=>
   (∀i,r.1≠ .exit i)/\(r.2.mem= {ε:=m'.ε,η:=[]})/\∃l,bf r.2 g.results=some l/\exp m'.ε.length true (ba l)=v) (ht:m'.η=m.η):aS C (.fn (.func f) [] cap) args m=some (v,m'):=by
 obtain⟨⟨ex,s'⟩,h1,h2,h3,l,h4,h5⟩:=hx;rw[uv hp hf hk h1 h2 h4];dsimp only at h3 h5;rw[h3];cases m';simp_all
theorem lO{C:iT}{f:FuncId}{g:AF}{fst args cap:List AV}{m:Mem}{v:AV}{B:List θ}(hp:C.jG f=none)(hf:C.fs f=some g)(hk:C.bD f=false)(hB:B.length=m.ε.length)
  (hx:κ C.gl (aS C) g.code {env:=(fst++args++cap).map (exp m.ε.length false),loc:=[],mem:= {ε:=m.ε,η:=[]}} fun r=>
   (∀i,r.1≠ .exit i)/\(∃bs,r.2.mem= {ε:=B++bs,η:=[]})/\∃l,bf r.2 g.results=some l/\ax r.2.mem.ε m.ε.length 8 (ba l)=v):aS C (.fn (.func f) fst cap) args m=some (v,{ε:=B,η:=m.η}):=by
 obtain⟨⟨ex,s'⟩,h1,h2,⟨bs,h3⟩,l,h4,h5⟩:=hx;have:aS C (.fn (.func f) fst cap) args m=some (ax s'.mem.ε m.ε.length 8 (ba l),m.back s'.mem):=by
  apply uw;simp only[body,hp,hf,hk,h1];cases ex with
  |exit i=>exact absurd rfl (h2 i)
  |_=>simp only[fin,h4];rfl
 rw[this];dsimp only at h3 h5;rw[h5,h3];simp[Mem.back,lT,<-hB]
theorem rY{C:iT}{f:FuncId}{g:AF}{fst args cap:List AV}{m:Mem}{v:AV}(hp:C.jG f=none)(hf:C.fs f=some g)(hk:C.bD f=false)
  (hx:κ C.gl (aS C) g.code {env:=(fst++args++cap).map (exp m.ε.length false),loc:=[],mem:= {ε:=m.ε,η:=[]}} fun r=>
   (∀i,r.1≠ .exit i)/\(∃bs,r.2.mem= {ε:=m.ε++bs,η:=[]})/\∃l,bf r.2 g.results=some l/\ax r.2.mem.ε m.ε.length 8 (ba l)=v):aS C (.fn (.func f) fst cap) args m=some (v,m):=
 lO hp hf hk rfl hx
def first{α:Type}(f:α->Int):List α->Int
 |[]=>0
 |x::l=>if f x≠0 then f x else first f l
theorem zw{α:Type}{f:α->Int}{l:List α}{i:Nat}(hi:i<l.length)(h:∀j (hj:j<l.length),j<i->f l[j]=0)(aj:f l[i]≠0):first f l=f l[i]:=by
 induction l generalizing i with
 |nil=>simp at hi
 |cons a l ih=>
  cases i with
  |zero=>simp only[mY]at aj⊢;simp[first,aj]
  |succ i=>
   have h0:=h 0 (by simp) (by omega)
   simp only[mY]at h0;simp only[List.getElem_cons_succ]at aj⊢;simp only[first,h0,ne_eq,not_true_eq_false,if_false];exact ih (by simpa using hi) (fun j hj jD=>by have:=h (j+1) (by simp;omega) (by omega);simpa using this) aj
theorem zu{α:Type}{f:α->Int}{l:List α}(h:∀j (hj:j<l.length),f l[j]=0):first f l=0:=by
 induction l with
 |nil=>rfl
 |cons a l ih=>
  have h0:=h 0 (by simp)
  simp only[mY]at h0;simp only[first,h0,ne_eq,not_true_eq_false,if_false];exact ih fun j hj=>by have:=h (j+1) (by simp;omega);simpa using this
theorem tw{P:Nat->Prop}{i n:Nat}(h:∀j,j<n->j<i->P j)(hi:P i):∀j,j<n->j<i+1->P j:=fun j hj jD=>by
 rcases bP j i with h'|h'
 ·exact h j hj h'
 ·have:j=i:=by omega
  subst this;exact hi
theorem dR{k n:Int}(h:k≠n):(k==n)=false:=by simpa using h
theorem bne_true{k n:Int}(h:k≠n):(k !=n)=true:=by simpa using h
def Row(n:Nat)(bs:List θ)(sz:Nat)(e:TypeId)(c:Γ)(len:Nat):Prop:=((c= .nil\/c= .full)/\len=0)\/∃t,c= .own t/\n<=t/\bs[t]?=some (.front len sz e)
theorem Row.nil{n:Nat}{bs:List θ}{sz:Nat}{e:TypeId}:Row n bs sz e .nil 0:= .inl ⟨.inl rfl,rfl⟩
theorem Row.full{n:Nat}{bs:List θ}{sz:Nat}{e:TypeId}:Row n bs sz e .full 0:= .inl ⟨.inr rfl,rfl⟩
theorem Row.Ey{n:Nat}{bs:List θ}{sz:Nat}{e:TypeId}{c:Γ}{len:Nat}(h:Row n bs sz e c len)(hl:0<len):c.exp n false= .any:=by
 rcases h with⟨_,rfl⟩|⟨t,rfl,h1,h2⟩
 ·omega
 ·simp[Γ.exp]
structure Iz (n:Nat) (bs o8:List θ) (e:TypeId):Prop where
 rows:∀ff e' c' k',e'≠e->Row n bs ff e' c' k'->Row n o8 ff e' c' k'
 len:bs.length<=o8.length
 HT:∀t,(∀k sz,bs[t]?≠some (.front k sz e))->t<bs.length->o8[t]?=bs[t]?
theorem Iz.refl(n:Nat)(bs:List θ)(e:TypeId):Iz n bs bs e:=⟨fun _ _ _ _ _ h=>h,bQ _,fun _ _ _=>rfl⟩
theorem oT{B ext:List θ}{ag:Bool}{sz bytes:Nat}{e:TypeId}{c:Γ}{l:List AV}{v:AV}(h:Row B.length (B++ext) sz e c l.length)(hl:l.all (shaped ag sz)=true)(hv:shaped ag sz v=true)(hn:ρ v=v)
  (hs:0<sz) (hb:(l.length+1)*bytes<=140737488355328) (aX:l.length+1<=140737488355328):
  ∃c' ext',(∀T,gL {ε:=B++ext,η:=T} ag sz bytes e (.list c l) (.list .full [v])=some (.list c' (l++[v]),{ε:=B++ext',η:=T}))/\Row B.length (B++ext') sz e c' (l.length+1)/\Iz B.length (B++ext) (B++ext') e:=by
 rcases h with⟨hc,h0⟩|⟨t,rfl,h1,h2⟩
 ·have:l=[]:=lU h0;subst this;refine⟨.own (B.length+ext.length),ext++[.front 1 sz e],fun T=>?_,.inr ⟨_,rfl,by omega,?_⟩,⟨fun ff e' c' k' he hr=>?_,by simp,fun t _ ht=>?_⟩⟩
  ·have q1:bytes<=140737488355328:=by simpa using hb
   rcases hc with rfl|rfl<;>simp[gL,hv,hs,Mem.push,Mem.ρ,hn,q1]
  ·rw[<-cr];have:B.length+ext.length=(B++ext).length:=by simp
   rw[this];simp
  ·rcases hr with⟨h1,rfl⟩|⟨t,rfl,h1,h2⟩
   ·exact .inl ⟨h1,rfl⟩
   ·refine .inr ⟨t,rfl,h1,?_⟩;rw[<-cr];have ht:t<(B++ext).length:=by
     rcases bP t (B++ext).length with h|h
     ·exact h
     ·rw[iU h]at h2;cases h2
    rw[eg ht];exact h2
  ·rw[<-cr,eg ht]
 ·have ht:t<(B++ext).length:=by
   rcases bP t (B++ext).length with h|h
   ·exact h
   ·rw[iU h]at h2;cases h2
  have jV:(B++ext).set t (.front (l.length+1) sz e)=B++ext.set (t-B.length) (.front (l.length+1) sz e):=by rw[List.set_append,if_neg (by omega)]
  refine⟨.own t,ext.set (t-B.length) (.front (l.length+1) sz e),fun T=>?_,.inr ⟨t,rfl,h1,?_⟩,⟨fun ff e' c' k' he hr=>?_,by simp,fun t' hf nz=>?_⟩⟩
  ·simp only[gL];simp only[ah3,hv,ah4,vq,hl,hs,decide_true,List.length_cons,fq,ly,hb,aX,h2,Bool.true_and,if_true,and_self,ah,List.map_nil,Mem.ρ,hn,Mem.put,jV]
  ·rw[<-jV,List.getElem?_set_self ht]
  ·rcases hr with⟨h3,rfl⟩|⟨t',rfl,h3,h4⟩
   ·exact .inl ⟨h3,rfl⟩
   ·refine .inr ⟨t',rfl,h3,?_⟩;have:t≠t':=by
     rintro rfl
     rw[h2]at h4;cases h4;exact he rfl
    rw[<-jV,Dz this];exact h4
  ·have:t≠t':=by
    rintro rfl
    exact hf _ _ h2
   rw[<-jV,Dz this]
theorem afE{B ext:List θ}{ag:Bool}{sz bytes:Nat}{e:TypeId}{c:Γ}{l:List AV}(hl:l.all (shaped ag sz)=true)(hn:l.map ρ=l)(hs:0<sz)(hb:l.length*bytes<=140737488355328)(aX:l.length<=140737488355328):
  ∃c' ext',(∀T,gL {ε:=B++ext,η:=T} ag sz bytes e (.list .full []) (.list c l)=some (.list c' l,{ε:=B++ext',η:=T}))/\Row B.length (B++ext') sz e c' l.length:=by
 cases l with
 |nil=>exact⟨.full,ext,fun T=>by simp[gL,hs],Row.full⟩
 |cons a l=>
  refine⟨.own (B++ext).length,ext++[.front (l.length+1) sz e],fun T=>?_,.inr ⟨_,rfl,by simp,?_⟩⟩
  ·have h0:(([]:List AV).length+(a::l).length)*bytes<=140737488355328:=by simpa using hb
   have h1:([]:List AV).length+(a::l).length<=140737488355328:=by simpa using aX
   have h2:([]:List AV).all (shaped ag sz)=true:=rfl;have h3:(a::l).map (Mem.ρ {ε:=B++ext,η:=T})=a::l:=hn;unfold gL;simp only[hl,h2,hs,decide_true,h0,h1,vq,if_true,h3,cO,Mem.push,cr];simp
  ·rw[<-cr];simp
mutual
theorem AV.beq_refl:∀a:AV,AV.beq a a=true
 | .undef| .dd| .iR| .eU| .ga| .fP=>rfl
 | .int _ _| .bool _| .str _| .Ω _ _ _| .μ _ _| .sl _ _ _ _ _| .map _=>by simp[AV.beq]
 | .ref l=>by simp only[AV.beq];exact AV.fI l
 | .list _ l=>by simp[AV.beq,AV.fI l]
 | .agg l=>by simp only[AV.beq];exact AV.fI l
 | .aO l=>by simp only[AV.beq];exact AV.fI l
 | .fn _ a b=>by simp[AV.beq,AV.fI a,AV.fI b]
 | .iface _ v=>by simp[AV.beq,AV.beq_refl v]
theorem AV.fI:∀l:List AV,AV.gh l l=true
 |[]=>rfl
 |a::l=>by simp[AV.gh,AV.beq_refl a,AV.fI l]
end
structure Lv (n:Nat) (v w:AV):Prop where
 z:∀bs,ax bs n 8 v=w
 n:ρ v=v
structure om (ag:Bool) (n sz:Nat) (l ws:List AV):Prop where
 z:∀bs,l.map (ax bs n 8)=ws
 n:l.map ρ=l
 s:l.all (shaped ag sz)=true
theorem om.nil{ag:Bool}{n sz:Nat}:om ag n sz [] []:=⟨fun _=>rfl,rfl,rfl⟩
theorem om.len{ag:Bool}{n sz:Nat}{l ws:List AV}(h:om ag n sz l ws):l.length=ws.length:=by have:=h.z [];rw[<-this];simp
theorem om.snoc{ag:Bool}{n sz:Nat}{l ws:List AV}{v w:AV}(h:om ag n sz l ws)(hv:Lv n v w)(hs:shaped ag sz v=true):om ag n sz (l++[v]) (ws++[w]):=
 ⟨fun bs=>by simp[h.z bs,hv.z bs],by simp[h.n,hv.n],by simp only[List.all_append,h.s,ah3,hs,ah4];rfl⟩
theorem zA(bs:List θ)(n:Nat)(c:Γ)(l:List AV):ax bs n 8 (.list c l)= .list (c.exp n false) (l.map (ax bs n 8)):=by simp only[ax,cA,pd]
theorem om.list{ag:Bool}{n sz:Nat}{l ws:List AV}(h:om ag n sz l ws)(c:Γ):Lv n (.list c l) (.list (c.exp n false) ws):=
 ⟨fun bs=>by rw[zA,h.z],by simp only[ρ,fC,h.n]⟩
theorem Lv.str(n:Nat)(s:List Nat):Lv n (.str s) (.str s):=⟨fun _=>rfl,rfl⟩
theorem Lv.int(n:Nat)(k:IntKind)(i:Int):Lv n (.int k i) (.int k i):=⟨fun _=>rfl,rfl⟩
theorem BP(bs:List θ)(n:Nat)(l:List AV):ax bs n 8 (.agg l)= .agg (l.map (ax bs n 8)):=by simp only[ax,cA,pd]
theorem Lv.agg{n:Nat}{l ws:List AV}(h:∀bs,l.map (ax bs n 8)=ws)(h':l.map ρ=l):Lv n (.agg l) (.agg ws):=⟨fun bs=>by rw[BP,h],by simp only[ρ,fC,h']⟩
theorem om.of{ag:Bool}{n sz:Nat}{α:Type}(f:α->AV)(l:List α)(h:∀x∈l,Lv n (f x) (f x)/\shaped ag sz (f x)=true):om ag n sz (l.map f) (l.map f):=by
 refine⟨fun bs=>?_,?_,?_⟩
 ·rw[di];exact dz fun x hx=>(h x hx).1.z bs
 ·rw[di];exact dz fun x hx=>(h x hx).1.n
 ·simp only[List.all_map,List.all_eq_true,Function.comp];exact fun x hx=>(h x hx).2
def l5(w:World):Gh:=⟨fun b o=>w.cell? ⟨b,o,none⟩,fun _=>none,fun _ _=>none⟩
theorem adF(w:World)(own:OW)(LC:eX):bc (l5 w) own LC {ε:=[],η:=[]} w:=
 ⟨fun _ _ h=>(by cases h),fun _ _ _ h=>(by cases h),fun _ _ h=>(by simp at h),fun _ _ _ h=>h⟩
theorem aeD(w:World):bZ w.heap.size (fun _=>none) w:=⟨fun _ _ h=>(by cases h),bQ _⟩
section
variable{H:Type}{enc:TypeId×Value->H}{P:Program}{w:World}{base:Nat}{spare:Nat->Bool}{held:Bool}
theorem agx{t e:TypeId}(hu:P.underlying t=some (.slice e)){A:AV->DataW H->Prop}{sz:Nat}(bm:P.cellsOf e=sz)(h0:0<sz){fuel:Nat}{cs:List Value}{x:DataW H×List MemPlace}
  (Zg:∀n,n<fuel->∀cs y,DataW.trod enc P w base spare held n e cs=some y->cs.length=sz→
   ∃el,A el y.1/\PW (VR (l5 w) cd) el.cells cs/\∀v∈cs,v.oneCell'=true)
  (h:DataW.trod enc P w base spare held fuel t cs=some x):
  ∃v:Value,cs=[v]/\v.oneCell'=true/\((VR (l5 w) cd (.list .nil []) v/\x.1= .nil)\/∃(l:List AV) (ds rest:List (DataW H)),VR (l5 w) cd (.list .any l) v/\x.1= .slice ds rest/\l.length=ds.length∧
   ∀i (h:i<l.length) (h':i<ds.length),A l[i] ds[i]):=by
 rcases DataW.trod_slice hu h with⟨rfl,rfl⟩|⟨a,len,cap,elems,rest,n,rfl,rfl,rfl,hb,ll,vW,zU,RU,-,-⟩
 ·exact⟨_,rfl,rfl,.inl ⟨.iQ _,rfl⟩⟩
 ·rw[bm]at RU;have each:∀i (hi:i<len),∃el cs,A el (elems[i]'(by omega)).1/\PW (VR (l5 w) cd) el.cells cs/\(∀v∈cs,v.oneCell'=true)/\cs.length=sz/\∀j,j<sz->w.cell? ((a.add (i*sz)).add j)=cs[j]?:=by intro i hi;have hr:=RU i hi;rw[eo (by omega)]at hr;obtain⟨ξ,jb,ht⟩:=A8.1 hr;obtain⟨-,hl,oD⟩:=World.cells?_some jb;obtain⟨el,k1,k2,k3⟩:=Zg n (by omega) ξ _ ht hl;exact⟨el,ξ,k1,k2,k3,hl,oD⟩
  by_cases hlen:len=0
  ·subst hlen;exact⟨_,rfl,rfl,.inr ⟨[],_,_,.g_ _ _ _ _ (.inl rfl),rfl,by simpa using zU.symm,fun i h=>absurd h (Nat.not_lt_zero _)⟩⟩
  ·obtain⟨b,o,spot⟩:=a;have aaC:spot=none:=by obtain⟨el,ξ,-,-,-,hl,oD⟩:=each 0 (by omega);have g0:=oD 0 h0;rw[eo (by omega)]at g0;simpa[Addr.add]using World.cell?_spot g0
   subst aaC;have hex:∃F:Nat->AV×List Value,∀i (hi:i<len),A (F i).1 (elems[i]'(by omega)).1/\PW (VR (l5 w) cd) (F i).1.cells (F i).2/\(∀v∈(F i).2,v.oneCell'=true)/\(F i).2.length=sz∧
     ∀j,j<sz->w.cell? ⟨b,o+(i*sz+j),none⟩=(F i).2[j]?:=by
    refine⟨fun i=>if hi:i<len then((each i hi).choose,(each i hi).choose_spec.choose)else(.undef,[]),fun i hi=>?_⟩;simp only[dif_pos hi];obtain⟨k1,k2,k3,k4,k5⟩:=(each i hi).choose_spec.choose_spec;refine⟨k1,k2,k3,k4,fun j hj=>?_⟩;rw[<-k5 j hj,Addr.add_mid,Addr.add_mid,Nat.add_assoc]
   obtain⟨F,hF⟩:=hex;refine⟨_,rfl,rfl,.inr ⟨(rM len).map fun i=>(F i).1,_,_,?_,rfl,by simp[zU],fun i hi ae=>?_⟩⟩
   ·refine .list _ .any _ b o sz len cap (fun i j=>(F i).2.getD j Go.undef) (by simp) ll trivial (fun e he=>?_) (fun i hi j hj=>?_) (fun i hi j hj=>?_)
    ·obtain⟨i,hi,rfl⟩:=jv.1 he;have hi:=List.mem_range.1 hi;obtain⟨k1,k2,k3,k4,k5⟩:=hF i hi;rw[k2.1,k4]
    ·obtain⟨k1,k2,k3,k4,k5⟩:=hF i hi;have e1:(F i).2[j]?=some (F i).2[j]:=eo (by omega);refine⟨?_,?_⟩
     ·show w.cell? ⟨b,o+(i*sz+j),none⟩=_;rw[k5 j hj,e1,kT,e1];rfl
     ·rw[kT,e1];exact k3 _ (List.getElem_mem _)
    ·have ae:i<len:=by simpa using hi
     obtain⟨k1,k2,k3,k4,k5⟩:=hF i ae;simp only[iG,IF]at hj⊢;have xW:j<(F i).2.length:=by rw[<-k2.1];exact hj
     have:=k2.2 j hj xW;rw[kT,eo xW];exact this
   ·have oG:i<len:=by simpa using hi
    simp only[iG,IF];exact(hF i oG).1
end
open Go.Lib (strCells strCells_length run_append_grow_string run_append_room_string run_firstCells_string)
def oZ(w:World)(e:TypeId)(s:List Nat)(v:Value)(r:Option Nat):Prop:=
 (v= .slice none 0 0/\s=[]/\r=none)\/∃(g cap:Nat) (cur:Array Value),r=some g/\v= .slice (some ⟨g,0,none⟩) s.length cap/\s≠[]∧
  w.heap[g]?=some (.cells cur e (0,0))/\cur.size=cap/\s.length<=cap/\cap<=maxLen/\∀i (h:i<s.length),cur[i]?=some (.int .u8 s[i])
theorem agk(s:ByteArray)(i:Nat)(h:i<(s.data.toList.map UInt8.toNat).length):(strCells s)[i]?=some (.int .u8 ((s.data.toList.map UInt8.toNat)[i]:Nat)):=by
 have h':i<s.data.size:=by simpa using h
 simp only[strCells,List.getElem?_map,iG];rw[eo (by simpa using h')];rfl
theorem V8{P:Program}{w:World}{t u ty e:TypeId}{i:TypeInfo}(ht:P.underlying t=some (.slice e))(hu:P.underlying u=some .string)(hi:P.info? e=some i)(hz:i.zero=some (.int .u8 0))
  (CE:i.size=1) (GP:i.bytes=1) {v:Value} {r:Option Nat} {q:List Nat} (hv:oZ w e q v r) (s:ByteArray) (hlen:q.length+s.size<=140737488355328):
  ∃(v':Value) (w':World) (r':Option Nat),(Builtin.append_ #[t,u] ty #[v,.string s]).run P w= .ok v' w'/\oZ w' e (q++s.data.toList.map UInt8.toNat) v' r'/\(r'=r\/r'=some w.heap.size)∧
   w.heap.size<=w'.heap.size/\w'.os=w.os/\w'.tape=w.tape/\w'.output=w.output/\(∀k,k<w.heap.size->r≠some k->w'.heap[k]?=w.heap[k]?):=by
 have me:∀n HT,n<=140737488355328->grownCap w n HT e<=maxLen:=fun n HT h=>grownCap_le_maxLen w n HT e (by have:maxLen=9223372036854775807:=rfl;omega);have iw:(s.data.toList.map UInt8.toNat).length=s.size:=by rw[dq,vp];rfl
 rcases hv with⟨rfl,rfl,rfl⟩|⟨g,cap,cur,rfl,rfl,aj,hg,fw,ll,vW,fR⟩
 ·simp only[fq,ly]at hlen;by_cases hm:s.size=0
  ·have hn:s.data.toList.map UInt8.toNat=[]:=lU (by rw[iw];exact hm);refine⟨.slice none 0 0,w,none,?_,.inl ⟨rfl,by rw[hn];rfl,rfl⟩,.inl rfl,bQ _,rfl,rfl,rfl,fun _ _ _=>rfl⟩;have hf:=run_firstCells_string (P:=P) w 1 s;rw[hm]at hf;have Lr:strCells s=[]:=lU (by rw[strCells_length,hm]);rw[Lr]at hf;simp[Builtin.append_,run_underlying ht,run_underlying hu,sizeOf,typeInfo,hi,CE,Builtin.lenOf,hm,hf]
  ·have hr:=run_append_nil_string (P:=P) w t u ty e i (.int .u8 0) ht hu hi hz s (by omega) (by omega) (by rw[GP];omega);refine⟨_,_,some w.heap.size,hr,.inr ⟨w.heap.size,grownCap w s.size 0 e,_,rfl,?_,?_,pZ w.drew _,?_,?_,me _ _ hlen,fun j hj=>?_⟩,.inr rfl,?_,rfl,rfl,rfl,fun k hk _=>tF w.drew _ hk⟩
   ·simp[iw]
   ·intro h0;rw[cO]at h0;have:=congrArg mB h0;rw[iw]at this;exact hm this
   ·have pA:(Value.int ah5 0).cells.size=1:=rfl;have:=grownCap_ge w s.size 0 e;have Zd:s.data.size=s.size:=rfl;rw[Array.size_append,Array.size_map,size_zeroCells,pA,Zd];omega
   ·simp only[cO,iw];exact grownCap_ge w _ _ e
   ·simp only[cO]at hj⊢;have dD:j<s.data.size:=by simpa using hj
    rw[Array.getElem?_append_left (by simpa using dD),Array.getElem?_map,Array.getElem?_eq_getElem dD];simp
   ·show w.heap.size<=(w.heap.push _).size;simp
 ·have Y_:∀j u,(cur.toList.take q.length)[j]?=some u->w.cell? ((⟨g,0,none⟩:Addr).add j)=some u:=by
   intro j u hj;rw[List.getElem?_take]at hj;split at hj
   ·rw[Addr.add_mid];simpa[World.cell?,hg]using hj
   ·cases hj
  have CA:(q++s.data.toList.map UInt8.toNat)≠[]:=by simp[aj]
  have oD:∀j (hj:j<(q++s.data.toList.map UInt8.toNat).length),(cur.toList.take q.length++strCells s)[j]?=some (.int .u8 ((q++s.data.toList.map UInt8.toNat)[j]:Nat)):=by
   intro j hj;have du:(cur.toList.take q.length).length=q.length:=by simp;omega
   rcases bP j q.length with h|h
   ·rw[eg (by omega),List.getElem?_take_of_lt h,List.getElem_append_left h,<-fR j h];simp
   ·rw[List.getElem?_append_right (by omega),List.getElem_append_right h,du];exact agk s (j-q.length) (by simp at hj⊢;omega)
  by_cases tK:q.length+s.size<=cap
  ·have hr:=run_append_room_string (P:=P) w t u ty e i ht hu hi CE g q.length cap cur hg s tK (by omega);refine⟨_,_,some g,hr,.inr ⟨g,cap,_,rfl,by rw[dB,iw],CA,setRow_heap w g cur _ e _ hg,?_,by rw[dB,iw];exact tK,vW,fun j hj=>?_⟩,.inl rfl,by simp,rfl,rfl,rfl,
    fun k _ hk=>setRow_other w g k _ (fun e=>hk (by rw[e]))⟩
   ·simp only[List.size_toArray,dB,kD,List.length_drop,vp,strCells_length];omega
   ·have dD:j<(cur.toList.take q.length++strCells s).length:=by rw[dB,iw]at hj;have du:cur.toList.length=cur.size:=vp;rw[dB,strCells_length,kD];omega
    have:=oD j hj;rw[List.getElem?_toArray,eg dD];exact this
  ·have hr:=run_append_grow_string (P:=P) w t u ty e i (.int .u8 0) ht hu hi hz ⟨g,0,none⟩ q.length cap (cur.toList.take q.length) (by rw[CE];simp;omega) Y_ s (by omega) (by omega) (by rw[GP];exact growslice_fits (by omega) (by omega));refine⟨_,_,some w.heap.size,hr,.inr ⟨w.heap.size,grownCap w (q.length+s.size) cap e,_,rfl,by rw[dB,iw],CA,pZ w.drew _,?_,?_,me _ _ (by omega),fun j hj=>?_⟩,.inr rfl,?_,rfl,rfl,rfl,fun k hk _=>tF w.drew _ hk⟩
   ·have pA:(Value.int ah5 0).cells.size=1:=rfl;have:=grownCap_ge w (q.length+s.size) cap e;simp[size_zeroCells,pA,strCells_length];omega
   ·rw[dB,iw];exact grownCap_ge w _ _ e
   ·have dD:j<(cur.toList.take q.length++strCells s).length:=by rw[dB,iw]at hj;have du:cur.toList.length=cur.size:=vp;rw[dB,strCells_length,kD];omega
    have:=oD j hj;rw[<-this];simp only[<-Array.getElem?_toList,Array.toList_append];rw[eg (by simpa using dD)]
   ·show w.heap.size<=(w.heap.push _).size;simp
section
variable{P:Program}{gl:Nat->AV}{base:Nat}{LC:eX}{g:Gh}{own:OW}{mem:Mem}{w w':World}
structure AW (g:Gh) (own:OW) (w:World) (id:Nat) (T e:TypeId) (s:List Nat) (b:Nat) (p v:Value) (r:Option Nat):Prop where
 mb:g.mb id=some b
 owned:own b=some (.m id)
 im:∀o,g.im b o=none
 heap:w.heap[b]?=some (.cells #[p,v] T (0,0))
 ptr:p= .pointer none\/p= .pointer (some ⟨b,0,none⟩)
 bytes:∀x∈s,x<256
 row:oZ w e s v r
 qC:∀k,r=some k->own k=some (.m id)/\k≠b/\∀o,g.im k o=none
theorem N6{id:Nat}{T e:TypeId}{s:List Nat}(h:s_ g own LC w id (.nL T e s)):∃b p v r,AW g own w id T e s b p v r:=by
 obtain⟨b,h1,h2,h3,p,v,h4,h5,h6,⟨rfl,rfl⟩|⟨r,cap,cur,q1,q2,q3,q4,q5,q6,q7,q8,q9,gx⟩⟩:=h
 ·exact⟨b,p,_,none,h1,h2,h3,h4,h5,h6,.inl ⟨rfl,rfl,rfl⟩,fun k hk=>(by cases hk)⟩
 ·exact⟨b,p,v,some r,h1,h2,h3,h4,h5,h6,.inr ⟨r,cap,cur,rfl,q1,q5,q6,q7,q8,q9,gx⟩,fun k hk=>(by cases hk;exact⟨q2,q3,q4⟩)⟩
theorem V'{id:Nat}{T e:TypeId}{s:List Nat}{b:Nat}{p v:Value}{r:Option Nat}(h:AW g own w id T e s b p v r):s_ g own LC w id (.nL T e s):=by
 refine⟨b,h.mb,h.owned,h.im,p,v,h.heap,h.ptr,h.bytes,?_⟩;rcases h.row with⟨h1,h2,h3⟩|⟨r',cap,cur,hr,q1,q5,q6,q7,q8,q9,gx⟩
 ·exact .inl ⟨h1,h2⟩
 ·obtain⟨k1,k2,k3⟩:=h.qC r' hr;exact .inr ⟨r',cap,cur,q1,k1,k2,k3,q5,q6,q7,q8,q9,gx⟩
theorem V_{id:Nat}{T e:TypeId}{s:List Nat}{b:Nat}{p v:Value}{r:Option Nat}(h:AW g own w id T e s b p v r):b<w.heap.size:=(yY.1 h.heap).1
theorem Wa(hm:bc g own LC mem w)(ho:bZ base own w)(eB:mX g gl){id:Nat}{T e:TypeId}{s s':List Nat}{b:Nat}{p v p' v':Value}{r r':Option Nat}(hid:id<mem.ε.length)
  (hb:AW g own w id T e s b p v r) (bm:w.heap.size<=w'.heap.size) (Le:w'.os=w.os) (Ly:w'.tape=w.tape) (Lf:w'.output=w.output)
  (hk:∀k,k<w.heap.size->k≠b->r≠some k->w'.heap[k]?=w.heap[k]?)
  (hh:w'.heap[b]?=some (.cells #[p',v'] T (0,0))) (hp:p'= .pointer none\/p'= .pointer (some ⟨b,0,none⟩)) (hs:∀x∈s',x<256) (dn:oZ w' e s' v' r')
  (hr:r'=r\/∃k,r'=some k/\w.heap.size<=k) {rv:AV} {x:Value} (hv:VR g cd rv x):od base LC gl g own w rv (mem.put id (.nL T e s') true) x w':=by
 have zO:=hb.owned;have hold:∀k,k<w.heap.size->r'=some k->r=some k:=by
  intro k dm CB;rcases hr with h|⟨k0,h,cD⟩
  ·rw[<-h];exact CB
  ·rw[h]at CB;cases CB;omega
 let aK:OW:=fun k=>if r'=some k then some (.m id)else ez own k;have dE:∀k,r'=some k->k<w'.heap.size:=by
  intro k dm;rcases dn with⟨_,_,h3⟩|⟨g1,cap,cur,h1,_,_,h4,_⟩
  ·rw[h3]at dm;cases dm
  ·rw[h1]at dm;cases dm;exact(yY.1 h4).1
 have aj:∀k nC,own k=some (.m nC)->nC≠id->k<w.heap.size/\k≠b/\r≠some k/\r'≠some k:=by
  intro k nC dm aj;have ν:=(ho.ge k _ dm).2;have h2:r≠some k:=fun h=>by have:=(hb.qC k h).1;rw[this]at dm;cases dm;exact aj rfl
  exact⟨ν,fun h=>(by rw[h,zO]at dm;cases dm;exact aj rfl),h2,fun h=>h2 (hold k ν h)⟩
 have KJ:∀k o y,g.im k o=some y->k≠b/\r≠some k:=fun k o y hy=>⟨fun h=>(by rw[h,hb.im]at hy;cases hy),fun h=>(by rw[(hb.qC k h).2.2]at hy;cases hy)⟩;refine⟨g,aK,⟨g.eP,bm,Le,Ly,Lf,fun k ν hn=>?_,fun k ν hn=>?_,fun _ _ _ _=>rfl⟩,⟨fun i c hc=>?_,fun t n y hy=>?_,fun i blk hi=>?_,fun k o y hy=>?_⟩,hv,⟨fun k o Cj=>?_,xh ho.base bm⟩,fun k d hd=>?_,eB⟩
 ·refine hk k ν (fun h=>?_) (fun h=>?_)
  ·rw[h,u7 zO]at hn;cases hn
  ·rw[u7 (hb.qC k h).1]at hn;cases hn
 ·simp only[aK];split
  ·rename_i h;rw[u7 (hb.qC k (hold k ν h)).1]at hn;cases hn
  ·exact hn
 ·simp only[Mem.put,ft];exact hm.ja i c hc
 ·simp only[Mem.put,ft];exact hm.nF t n y hy
 ·simp only[Mem.put,vu]at hi;split at hi
  ·rename_i xV;subst xV;simp only[bj]at hi;subst hi;refine V' ⟨hb.mb,?_,hb.im,hh,hp,hs,dn,fun k dm=>⟨by simp only[aK];rw[if_pos dm],?_,fun o=>?_⟩⟩
   ·simp only[aK];split
    ·rfl
    ·exact u7 zO
   ·intro h;have ν:=V_ hb;exact(hb.qC k (hold k (by omega) dm)).2.1 h
   ·cases hx:g.im k o with
    |none=>rfl
    |some y=>
     have h1:=vF (hm.im k o y hx)
     have:=(hb.qC k (hold k h1 dm)).2.2 o;rw[this]at hx;cases hx
  ·rename_i xV;refine(hm.blk i blk hi).bD g.eP (fun k dm=>?_) (fun _ h=>h) (fun h=>h);obtain⟨k1,k2,k3,k4⟩:=aj k i dm (fun h=>xV h.symm);exact⟨by simp only[aK];rw[if_neg k4,u7 dm,dm],hk k k1 k2 k3,fun _=>rfl⟩
 ·have hc:=hm.im k o y hy;obtain⟨k1,k2⟩:=KJ k o y hy;rw[pO (hk k (vF hc) k1 k2)];exact hc
 ·simp only[aK]at Cj;split at Cj
  ·rename_i h;refine⟨?_,dE k h⟩;rcases bP k w.heap.size with hl|hl
   ·exact(ho.ge k _ (hb.qC k (hold k hl h)).1).1
   ·exact xh ho.base hl
  ·have:=ho.ge k o (tV Cj).1;exact⟨this.1,rP this.2 bm⟩
 ·simp only[aK]at hd;split at hd
  ·cases hd
  ·obtain⟨_,i,h⟩:=tV hd;cases h
theorem V9(hm:bc g own LC mem w)(ho:bZ base own w)(eB:mX g gl){id:Nat}{T e:TypeId}{s:List Nat}{b:Nat}{p v:Value}{r:Option Nat}
  (hb:AW g own w id T e s b p v r) (bm:w.heap.size<=w'.heap.size) (Le:w'.os=w.os) (Ly:w'.tape=w.tape) (Lf:w'.output=w.output)
  (hk:∀k,k<w.heap.size->r≠some k->w'.heap[k]?=w.heap[k]?) {rv:AV} {x:Value} (hv:VR g cd rv x):od base LC gl g own w rv (mem.put id .dead true) x w':=by
 have KJ:∀k o y,g.im k o=some y->r≠some k:=fun k o y hy h=>by rw[(hb.qC k h).2.2]at hy;cases hy
 refine⟨g,ez own,⟨g.eP,bm,Le,Ly,Lf,fun k ν hn=>?_,fun k ν hn=>by simpa[ez]using hn,fun _ _ _ _=>rfl⟩,⟨fun i c hc=>?_,fun t n y hy=>?_,fun i blk hi=>?_,fun k o y hy=>?_⟩,hv,⟨fun k o Cj=>?_,xh ho.base bm⟩,fun k d hd=>?_,eB⟩
 ·refine hk k ν (fun h=>?_);rw[u7 (hb.qC k h).1]at hn;cases hn
 ·simp only[Mem.put,ft];exact hm.ja i c hc
 ·simp only[Mem.put,ft];exact hm.nF t n y hy
 ·simp only[Mem.put,vu]at hi;split at hi
  ·split at hi
   ·cases hi;trivial
   ·cases hi
  ·rename_i xV;refine(hm.blk i blk hi).bD g.eP (fun k dm=>?_) (fun _ h=>h) (fun h=>h);refine⟨by rw[u7 dm,dm],hk k (ho.ge k _ dm).2 (fun h=>?_),fun _=>rfl⟩;have:=(hb.qC k h).1;rw[dm]at this;cases this;exact xV rfl
 ·have hc:=hm.im k o y hy;rw[pO (hk k (vF hc) (KJ k o y hy))];exact hc
 ·have:=ho.ge k o (tV Cj).1;exact⟨this.1,rP this.2 bm⟩
 ·obtain⟨_,i,h⟩:=tV hd;cases h
end
def nf(n:Nat):List Nat:=if n<10 then[48+n]else[48+n/10,48+n % 10]
def wQ:Prim:=fun args m=>match args with
 |[.int .i64 n]=>if 0<=n/\n<100 then some (.str (nf n.toNat),m)else none
 |_=>none
def yD:Nat->List Nat->Option Nat
 |acc,[]=>some acc
 |acc,b::r=>if 48<=b/\b<=57 then yD (acc*10+(b-48)) r else none
def dI(b:Nat):Bool:=decide (48<=b)&&decide (b<=57)
def tW(te:TypeId):Prim:=fun args m=>match args with
 |[.str s]=>match s with
  |[]=>some (.aO [.int .i64 0,.iface te .dd],m)
  |b::r=>if r.length<=17/\dI b=true then(yD 0 (b::r)).map fun(n:Nat)=>(.aO [.int .i64 (n:Int),.ga],m)else none
 |_=>none
def AQ:List AV->Option (List (List Nat))
 |[]=>some []
 | .str s::l=>(AQ l).map (s::·)
 |_=>none
def mm(sep:List Nat):List (List Nat)->List Nat
 |[]=>[]
 |[x]=>x
 |x::l=>x++sep++mm sep l
def wR:Prim:=fun args m=>match args with
 |[.list _ [],.str _]=>some (.str [],m)
 |[.list _ (x::l),.str sep]=>match AQ (x::l)with
  |some l=>if(mm sep l).length<=140737488355328/\l.length<=140737488355328 then some (.str (mm sep l),m)else none
  |none=>none
 |_=>none
def jm(c:Nat):List Nat->Nat->Option Nat
 |[],_=>none
 |b::r,i=>if b=c then some i else jm c r (i+1)
def wP:Prim:=fun args m=>match args with
 |[.str s,.int .u8 c]=>if 0<=c/\c<256 then some (.int .i64 (match jm c.toNat s 0 with
   |some i=>(i:Int)
   |none=> -1),m)else none
 |_=>none
def wO:Prim:=fun args m=>match args with
 |[.map id]=>match m.ε[id]? with
  |some (.map es)=>some (.map m.ε.length,m.push (.map es))
  |_=>none
 |_=>none
def wT(T e:TypeId):Prim:=fun args m=>match args with
 |[.μ id 0,.str s]=>match m.ε[id]? with
  |some (.nL T' e' t)=>if T'=T/\e'=e/\t.length+s.length<=140737488355328 then some (.aO [.int .i64 s.length,.ga],m.put id (.nL T e (t++s)) true)else none
  |_=>none
 |_=>none
def wS(T e:TypeId):Prim:=fun args m=>match args with
 |[.μ id 0]=>match m.ε[id]? with
  |some (.nL T' e' t)=>if T'=T/\e'=e then some (.str t,m.put id .dead true)else none
  |_=>none
 |_=>none
def tX(v:AV):Prim:=fun args m=>match args with
 |[]=>some (v,m)
 |_=>none
section
variable{P:Program}{gl:Nat->AV}{base:Nat}{LC:eX}{f:FuncId}{fn:Func}
theorem H0(hf:P.funcs[f]?=some fn)(hb:fn.body.isNone=false)(hn:(fn.name== "runtime.NumGoroutine")=false){p:Prim}
  (h:∀(g:Gh) (own:OW) (mem:Mem) (w:World) (args:List AV) (r:AV) (m':Mem) (bU:Array Value),bc g own LC mem w->bZ base own w->mX g gl->PW (VR g cd) args bU.toList->p args mem=some (r,m')→
   m'=mem/\Calls P f bU w fun e w'=>∃x,e= .returned x/\VR g cd r x/\Below w.heap.size w w'):mC Fence.wide P base LC gl f p:=by
 intro n g own mem w args r m' bU hm ho eB dc hp;obtain⟨rfl,hc⟩:=h g own mem w args r m' bU hm ho eB dc hp;refine D8 hf hb hn (callsIn_wide.2 (hc.mono fun e w' he=>?_));obtain⟨x,rfl,hx,hB⟩:=he;exact⟨x,rfl,WC hm ho eB hB hx⟩
theorem U2{g:Gh}{lb:LB}{k:IntKind}{n:Int}{x:Value}(h:VR g lb (.int k n) x):x= .int k n:=by cases h;rfl
theorem yV{g:Gh}{lb:LB}{s:List Nat}{x:Value}(h:VR g lb (.str s) x):∃b:ByteArray,x= .string b/\b.data.toList.map UInt8.toNat=s:=by cases h;exact⟨_,rfl,by assumption⟩
theorem U1{g:Gh}{lb:LB}{s:List Nat}{l:List UInt8}(h:l.map UInt8.toNat=s):VR g lb (.str s) (.string ⟨l.toArray⟩):= .str _ _ _ (by simpa using h)
theorem W7(i:Nat)(hi:i<100):(Lib.decDigits i).map UInt8.toNat=nf i:=by
 have:∀j:Fin 100,(Lib.decDigits j.val).map UInt8.toNat=nf j.val:=by decide+kernel
 exact this ⟨i,hi⟩
theorem adZ(hf:P.funcs[f]?=some fn)(hb:fn.body.isNone=false)(hn:(fn.name== "runtime.NumGoroutine")=false)
  (h:∀(i:Nat),i<100->∀w,Calls P f #[.int .i64 i] w fun e w'=>e= .returned (.string ⟨(Lib.decDigits i).toArray⟩)/\w'=w):mC Fence.wide P base LC gl f wQ:=by
 refine H0 hf hb hn fun g own mem w args r m' bU hm ho eB dc hp=>?_;unfold wQ at hp;split at hp
 ·rename_i n;split at hp
  ·rename_i hr;simp only[bj,aL]at hp;obtain⟨rfl,rfl⟩:=hp;obtain⟨x,rfl,hx⟩:=C9 dc;cases U2 hx;obtain⟨i,rfl⟩:=Int.eq_ofNat_of_zero_le hr.1;have hi:i<100:=by omega
   refine⟨rfl,(h i hi w).mono fun e w' he=>?_⟩;obtain⟨rfl,rfl⟩:=he;exact⟨_,rfl,U1 (by simpa using W7 i hi),Below.refl _ _⟩
  ·cases hp
 ·cases hp
theorem adK(l:List UInt8)(acc:Nat):yD acc (l.map UInt8.toNat)=Lib.decFrom acc l:=by
 induction l generalizing acc with
 |nil=>rfl
 |cons b r ih=>
  simp only[ah,yD,Lib.decFrom,Lib.digitVal]
  by_cases h:48<=b.toNat/\b.toNat<=57
  ·rw[if_pos h,if_pos h];exact ih _
  ·rw[if_neg h,if_neg h]
theorem adW(te:TypeId)(hf:P.funcs[f]?=some fn)(hb:fn.body.isNone=false)(hn:(fn.name== "runtime.NumGoroutine")=false)
  (h:∀(s:ByteArray) (n:Int),s.size<=18->Lib.atoi s.data.toList=some n->∀w,Calls P f #[.string s] w fun e w'=>e= .returned (.tuple #[.int .i64 n,.nilIface])/\Below w.heap.size w w')
  (h0:∀w g,mX g gl->(∀b o x,g.im b o=some x->w.cell? ⟨b,o,none⟩=some x)->Calls P f #[.string .empty] w fun e w'=>∃N,e= .returned (.tuple #[.int .i64 0,.iface te (.pointer (some ⟨N,0,none⟩))])/\Below w.heap.size w w'):
  mC Fence.wide P base LC gl f (tW te):=by
 refine H0 hf hb hn fun g own mem w args r m' bU hm ho eB dc hp=>?_;unfold tW at hp;split at hp
 ·rename_i s;split at hp
  ·simp only[bj,aL]at hp;obtain⟨rfl,rfl⟩:=hp;obtain⟨x,rfl,hx⟩:=C9 dc;obtain⟨bs,rfl,fb⟩:=yV hx;have he:bs= .empty:=by obtain⟨⟨l⟩⟩:=bs;simp at fb;subst fb;rfl
   subst he;refine⟨rfl,(h0 w g eB hm.im).mono fun e w' he=>?_⟩;obtain⟨N,rfl,hB⟩:=he;refine⟨_,rfl,.aO _ _ _ rfl (fun i hi ae=>?_),hB⟩
   match i,hi with
   |0,_=>exact .int _ _ _
   |1,_=>exact .iface _ _ _ _ (.dd _ _ rfl)
  ·rename_i b r';split at hp
   ·rename_i hc;simp only[bL,aL]at hp;obtain⟨n,q_,rfl,rfl⟩:=hp;obtain⟨x,rfl,hx⟩:=C9 dc;obtain⟨bs,rfl,fb⟩:=yV hx;have bm:bs.size=r'.length+1:=by have:=congrArg mB fb;simpa using this
    rw[<-fb,adK]at q_;have fR:Lib.atoi bs.data.toList=some (n:Int):=by
     cases hl:bs.data.toList with
     |nil=>rw[hl]at fb;cases fb
     |cons u r2=>
      rw[hl]at fb q_
      simp only[ah,List.cons.injEq]at fb;have hu:48<=u.toNat/\u.toNat<=57:=by have:=hc.2;simp only[dI,Bool.and_eq_true,decide_eq_true_eq]at this;rw[fb.1];exact this
      have e1:(u==45)=false:=by rw[beq_eq_false_iff_ne];rintro rfl;exact absurd hu.1 (by decide)
      have e2:(u==43)=false:=by rw[beq_eq_false_iff_ne];rintro rfl;exact absurd hu.1 (by decide)
      simp only[Lib.atoi,e1,e2,Bool.false_eq_true,if_false,Lib.decNat,List.isEmpty_cons,q_,rR]
    refine⟨rfl,(h bs n (by omega) fR w).mono fun e w' he=>?_⟩;obtain⟨rfl,hB⟩:=he;refine⟨_,rfl,.aO _ _ _ rfl (fun i hi ae=>?_),hB⟩
    match i,hi with
    |0,_=>exact .int _ _ _
    |1,_=>exact .ga _
   ·cases hp
 ·cases hp
theorem aaP(c:Nat)(l:List Nat)(i:Nat):jm c l i=(jm c l 0).map (·+i):=by
 induction l generalizing i with
 |nil=>rfl
 |cons b r ih=>
  simp only[jm]
  split
  ·simp
  ·rw[ih (i+1),ih (0+1)];cases jm c r 0<;>simp[Nat.add_comm,Nat.add_left_comm]
theorem aaO(c:UInt8)(l:List UInt8):(match jm c.toNat (l.map UInt8.toNat) 0 with
  |some i=>(i:Int)
  |none=> -1)=Lib.indexByte l c:=by
 induction l with
 |nil=>rfl
 |cons b r ih=>
  simp only[ah,jm,Lib.indexByte]
  by_cases h:b=c
  ·subst h;simp
  ·have h1:¬b.toNat=c.toNat:=fun e=>h (UInt8.toNat_inj.1 e);have h2:(b==c)=false:=by simpa using h
   rw[if_neg h1,aaP,h2];cases hx:jm c.toNat (r.map UInt8.toNat) 0 with
   |none=>rw[hx]at ih;simp only at ih;simp[<-ih]
   |some k=>
    rw[hx]at ih
    simp only at ih;have:((k:Int)== -1)=false:=by rw[beq_eq_false_iff_ne];omega
    simp[<-ih,this]
theorem adY(hf:P.funcs[f]?=some fn)(hb:fn.body.isNone=false)(hn:(fn.name== "runtime.NumGoroutine")=false)
  (h:∀(s:ByteArray) (c:Int) (w:World),Calls P f #[.string s,.int .u8 c] w fun e w'=>e= .returned (.int .i64 (Lib.indexByte s.data.toList c.toNat.toUInt8))/\w'=w):mC Fence.wide P base LC gl f wP:=by
 refine H0 hf hb hn fun g own mem w args r m' bU hm ho eB dc hp=>?_;unfold wP at hp;split at hp
 ·rename_i s c;split at hp
  ·rename_i hc;simp only[bj,aL]at hp;obtain⟨rfl,rfl⟩:=hp;obtain⟨x,y,rfl,hx,hy⟩:=H2 dc;obtain⟨bs,rfl,rfl⟩:=yV hx;cases U2 hy;refine⟨rfl,(h bs c w).mono fun e w' he=>?_⟩;obtain⟨rfl,rfl⟩:=he;refine⟨_,rfl,?_,Below.refl _ _⟩;have jQ:c.toNat=(c.toNat.toUInt8).toNat:=by rw[Nat.toUInt8_eq,UInt8.toNat_ofNat'];omega
   have:=aaO c.toNat.toUInt8 bs.data.toList;rw[<-jQ]at this;rw[this];exact .int _ _ _
  ·cases hp
 ·cases hp
theorem agm{l:List AV}{ss:List (List Nat)}(h:AQ l=some ss):l=ss.map .str:=by
 induction l generalizing ss with
 |nil=>cases h;rfl
 |cons a l ih=>
  cases a<;>simp only[AQ]at h<;>first|(cases h;done)|skip
  simp only[bL]at h;obtain⟨t,ht,rfl⟩:=h;simp[ih ht]
theorem aa0(sep:List UInt8)(l:List (List UInt8)):mm (sep.map UInt8.toNat) (l.map (·.map UInt8.toNat))=(Lib.join l sep).map UInt8.toNat:=by
 induction l with
 |nil=>rfl
 |cons x l ih=>
  cases l with
  |nil=>simp[mm,Lib.join_one]
  |cons y l=>
   rw[Lib.join_cons]
   rw[Lib.join_cons]at ih;simp only[ah,mm]at ih⊢;rw[ih];simp[Lib.joinTail]
theorem ad0(hf:P.funcs[f]?=some fn)(hb:fn.body.isNone=false)(hn:(fn.name== "runtime.NumGoroutine")=false)
  (h0:∀(a:Option Addr) (c:Nat) (sep:ByteArray) (w:World),Calls P f #[.slice a 0 c,.string sep] w fun e w'=>e= .returned (.string ⟨#[]⟩)/\w'=w)
  (h:∀(bk o c:Nat) (xs:List ByteArray) (sep:ByteArray) (w:World),(∀(j:Nat) x,xs[j]?=some x->w.cell? ⟨bk,o+j,none⟩=some (.string x))->bk<w.heap.size->xs.length<=140737488355328->xs.length<=c→
   (Lib.join (xs.map (·.data.toList)) sep.data.toList).length<=140737488355328→
   Calls P f #[.slice (some ⟨bk,o,none⟩) xs.length c,.string sep] w fun e w'=>e= .returned (.string ⟨(Lib.join (xs.map (·.data.toList)) sep.data.toList).toArray⟩)/\Below w.heap.size w w'):mC Fence.wide P base LC gl f wR:=by
 refine H0 hf hb hn fun g own mem w args r m' bU hm ho eB dc hp=>?_;unfold wR at hp;split at hp
 ·rename_i c sep;simp only[bj,aL]at hp;obtain⟨rfl,rfl⟩:=hp;obtain⟨xv,yv,rfl,hx,hy⟩:=H2 dc;obtain⟨sb,rfl,rfl⟩:=yV hy;obtain⟨a,cap,rfl⟩:∃a cap,xv= .slice a 0 cap:=by
   cases hx with
   |iQ=>exact⟨_,_,rfl⟩
   |g_ _ _ a cap=>exact⟨_,_,rfl⟩
   |list _ _ _ b o sz n cap xs hn=>simp at hn;subst hn;exact⟨_,_,rfl⟩
  refine⟨rfl,(h0 a cap sb w).mono fun e w' he=>?_⟩;obtain⟨rfl,rfl⟩:=he;exact⟨_,rfl,.str _ _ _ rfl,⟨rfl,rfl,rfl,bQ _,fun _ _=>rfl⟩⟩
 ·rename_i c x l sep;split at hp
  ·rename_i ss hss;split at hp
   ·rename_i hlen;simp only[bj,aL]at hp;obtain⟨rfl,rfl⟩:=hp;have iw:=agm hss;obtain⟨xv,yv,rfl,hx,hy⟩:=H2 dc;obtain⟨sb,rfl,rfl⟩:=yV hy;rw[iw]at hx;have aj:ss≠[]:=by rintro rfl;cases iw
    obtain⟨bk,o,cap,vs,rfl,dp,-,l9,cJ⟩:=hx.flat (sz:=1) (fun e he=>by obtain⟨s,_,rfl⟩:=jv.1 he;rfl) (by simpa using aj);have Hg:vs.length=ss.length:=by have:=l9.1;simpa using this
    have qo:∀j,j<ss.length->∃bs:ByteArray,vs[j]?=some (.string bs)/\bs.data.toList.map UInt8.toNat=ss.getD j []:=by
     intro j hj;have e0:(ss.map AV.str)[j]'(by simpa using hj)= .str ss[j]:=by simp
     have hv:=l9.2.2.2 j (by simpa using hj) 0 (by rw[e0];simp[AV.cells]) (by omega);simp only[e0,AV.cells,mY,Nat.mul_one,Nat.add_zero]at hv;obtain⟨bs,h1,h2⟩:=yV hv;refine⟨bs,?_,?_⟩
     ·rw[eo (by omega),h1]
     ·rw[h2,kT,eo hj];rfl
    let xs:List ByteArray:=(rM ss.length).map fun j=>match(vs[j]?:Option Value)with
     |some (Value.string b)=>b
     |_=> .empty
    have re:xs.length=ss.length:=by simp[xs]
    have LG:∀j (hj:j<ss.length),∃bs:ByteArray,xs[j]?=some bs/\vs[j]?=some (.string bs)/\bs.data.toList.map UInt8.toNat=ss[j]:=by intro j hj;obtain⟨bs,h1,h2⟩:=qo j hj;refine⟨bs,?_,h1,by rw[h2,kT,eo hj];rfl⟩;simp[xs,hj,h1]
    have x4:(xs.map (·.data.toList)).map (·.map UInt8.toNat)=ss:=by
     apply List.ext_getElem (by simp[re]);intro j h1 h2;obtain⟨bs,k1,k2,k3⟩:=LG j h2;have ZP:j<xs.length:=by omega
     rw[eo ZP]at k1;cases k1;simpa using k3
    have hj:=aa0 sb.data.toList (xs.map (·.data.toList));rw[x4]at hj;rw[hj]at hlen⊢;simp only[dq]at hlen;have hle:ss.length<=cap:=by simpa using dp
    have oD:∀(j:Nat) x,xs[j]?=some x->w.cell? ⟨bk,o+j,none⟩=some (.string x):=by
     intro j y mj;have KP:j<ss.length:=by rw[<-re];exact(lx.1 mj).1
     obtain⟨bs,k1,k2,-⟩:=LG j KP;rw[k1]at mj;cases mj;exact hm.im _ _ _ (cJ j _ k2)
    have h0:0<ss.length:=List.length_pos_iff.2 aj;have Km:bk<w.heap.size:=by obtain⟨bs,k1,-,-⟩:=LG 0 h0;exact vF (oD 0 bs k1)
    have hc:=h bk o cap xs sb w oD Km (by omega) (by omega) hlen.1;rw[re]at hc;rw[dq];refine⟨rfl,hc.mono fun e w' he=>?_⟩;obtain⟨rfl,hB⟩:=he;exact⟨_,rfl,U1 rfl,hB⟩
   ·cases hp
  ·cases hp
 ·cases hp
theorem WL{g:Gh}{own:OW}{mem:Mem}{w:World}(hm:bc g own LC mem w)(ho:bZ base own w)(eB:mX g gl){id:Nat}{es:List (AV×AV)}(hb:mem.ε[id]?=some (.map es)){b:Nat}(jf:g.mb id=some b):
  ∃a clock,w.heap[b]?=some (.map a clock)/\od base LC gl g own w (.map mem.ε.length) (mem.push (.map es)) (.map (some w.heap.size)) (w.alloc (.map a clock)):=by
 obtain⟨b',h1,h2,h3,a,clock,h4,h5,h6,h7⟩:=hm.blk id _ hb;rw[jf]at h1;cases h1;refine⟨a,clock,h4,?_⟩;have lJ:=hm.ez;have nw:=ho.ez;have cJ:∀o,g.im w.heap.size o=none:=wD hm;let g':Gh:= {g with mb:=fun id=>if id=mem.ε.length then some w.heap.size else g.mb id};have ef:g.sub g':=⟨fun _ _ _ h=>h,fun id b hb=>by
  have:=hm.ja id b hb
  simp only[g'];rw[if_neg (by omega)];exact hb,fun _ _ _ h=>h⟩
 have τ:=ep.alloc g (ez own) w (.map a clock) (some (.m mem.ε.length));refine⟨g',_,⟨ef,τ.size,τ.os,τ.tape,τ.output,τ.bD,τ.kg,τ.im⟩,?_,.map _ _ _ (by simp[g']),nw.alloc _ _,fun b d hb=>?_,eB.mono ef⟩
 ·refine lJ.push (lJ.alloc nw _ _) _ _ (fun id b hb=>?_) (fun id hid=>?_) ?_
  ·split at hb
   ·exact .inr (by assumption)
   ·exact .inl hb
  ·exact if_neg (by omega)
  ·exact⟨w.heap.size,by simp,by simp[gr],cJ,a,clock,pZ w _,h5,fun i hi ae=>⟨(h6 i hi ae).1.sub ef,(h6 i hi ae).2.sub ef⟩,h7⟩
 ·unfold gr at hb;split at hb
  ·cases hb
  ·obtain⟨_,i,h⟩:=tV hb;cases h
theorem adX(hf:P.funcs[f]?=some fn)(hb:fn.body.isNone=false)(hn:(fn.name== "runtime.NumGoroutine")=false)
  (h:∀(b:Nat) (es:Array MapEntry) (clock:Nat) (w:World),w.heap[b]?=some (.map es clock)→
   Calls P f #[.map (some b)] w fun e w'=>e= .returned (.map (some w.heap.size))/\w'=w.alloc (.map es clock)):mC Fence.wide P base LC gl f wO:=by
 intro n g own mem w args r m' bU hm ho eB dc hp;unfold wO at hp;split at hp
 ·rename_i id;split at hp
  ·rename_i es gm;simp only[bj,aL]at hp;obtain⟨rfl,rfl⟩:=hp;obtain⟨x,rfl,hx⟩:=C9 dc;cases hx with
   |map _ _ b jf=>
    obtain⟨a,clock,h1,h2⟩:=WL hm ho eB gm jf
    refine D8 hf hb hn (callsIn_wide.2 ((h b a clock w h1).mono fun e w' he=>?_));obtain⟨rfl,rfl⟩:=he;exact⟨_,rfl,h2⟩
  ·cases hp
 ·cases hp
theorem aeM:∀args m r m',wO args m=some (r,m')->KM m m':=by
 intro args m r m' hp;unfold wO at hp;split at hp
 ·split at hp
  ·simp only[bj,aL]at hp;obtain⟨rfl,rfl⟩:=hp;exact KM.push _ _
  ·cases hp
 ·cases hp
def Nz(w w':World)(b:Nat)(r:Option Nat):Prop:=
 w.heap.size<=w'.heap.size/\w'.os=w.os/\w'.tape=w.tape/\w'.output=w.output/\∀k,k<w.heap.size->k≠b->r≠some k->w'.heap[k]?=w.heap[k]?
theorem ad2{T e:TypeId}(hf:P.funcs[f]?=some fn)(hb:fn.body.isNone=false)(hn:(fn.name== "runtime.NumGoroutine")=false)
  (h:∀(b:Nat) (s:ByteArray) (p v:Value) (r:Option Nat) (q:List Nat) (w:World),w.heap[b]?=some (.cells #[p,v] T (0,0))->(p= .pointer none\/p= .pointer (some ⟨b,0,none⟩))->oZ w e q v r->r≠some b→
   q.length+s.size<=140737488355328→
   Calls P f #[.pointer (some ⟨b,0,none⟩),.string s] w fun en w'=>en= .returned (.tuple #[.int .i64 s.size,.nilIface])/\Nz w w' b r/\∃p' v' r',w'.heap[b]?=some (.cells #[p',v'] T (0,0))∧
    (p'= .pointer none\/p'= .pointer (some ⟨b,0,none⟩))/\oZ w' e (q++s.data.toList.map UInt8.toNat) v' r'/\(r'=r\/∃k,r'=some k/\w.heap.size<=k)):
  mC Fence.wide P base LC gl f (wT T e):=by
 intro n g own mem w args r m' bU hm ho eB dc hp;unfold wT at hp;split at hp
 ·rename_i id s;split at hp
  ·rename_i T' e' t gm;split at hp
   ·rename_i hc;obtain⟨rfl,rfl,hlen⟩:=hc;simp only[bj,aL]at hp;obtain⟨rfl,rfl⟩:=hp;obtain⟨x,y,rfl,hx,hy⟩:=H2 dc;obtain⟨bs,rfl,rfl⟩:=yV hy;have eT:(bs.data.toList.map UInt8.toNat).length=bs.size:=by rw[dq,vp];rfl
    cases hx with
    |μ _ _ _ b jf=>
     obtain⟨b',p,v,Df,pj⟩:=N6 (hm.blk id _ gm)
     have:=pj.mb;rw[jf]at this;cases this;have wu:Df≠some b:=fun he=>(pj.qC b he).2.1 rfl;refine D8 hf hb hn (callsIn_wide.2 ((h b bs p v Df t w pj.heap pj.ptr pj.row wu (by omega)).mono fun en w' he=>?_));obtain⟨rfl,⟨k1,k2,k3,k4,k5⟩,p',v',r',k6,k7,k8,k9⟩:=he;refine⟨_,rfl,Wa hm ho eB (lx.1 gm).1 pj k1 k2 k3 k4 k5 k6 k7 (fun z hz=>?_) k8 k9 (.aO _ _ _ rfl fun i hi ae=>?_)⟩
     ·rcases List.mem_append.1 hz with hz|hz
      ·exact pj.bytes z hz
      ·obtain⟨u,_,rfl⟩:=jv.1 hz;exact u.toNat_lt
     ·rw[eT]at hi
      match i,hi with
      |0,_=>simp only[eT];exact .int _ _ _
      |1,_=>exact .ga _
   ·cases hp
  ·cases hp
 ·cases hp
theorem ad1{T e:TypeId}(hf:P.funcs[f]?=some fn)(hb:fn.body.isNone=false)(hn:(fn.name== "runtime.NumGoroutine")=false)
  (h:∀(b:Nat) (p v:Value) (r:Option Nat) (q:List Nat) (w:World),w.heap[b]?=some (.cells #[p,v] T (0,0))->oZ w e q v r->r≠some b->(∀x∈q,x<256)→
   Calls P f #[.pointer (some ⟨b,0,none⟩)] w fun en w'=>∃bs:ByteArray,en= .returned (.string bs)/\bs.data.toList.map UInt8.toNat=q∧
    w.heap.size<=w'.heap.size/\w'.os=w.os/\w'.tape=w.tape/\w'.output=w.output/\∀k,k<w.heap.size->r≠some k->w'.heap[k]?=w.heap[k]?):
  mC Fence.wide P base LC gl f (wS T e):=by
 intro n g own mem w args r m' bU hm ho eB dc hp;unfold wS at hp;split at hp
 ·rename_i id;split at hp
  ·rename_i T' e' t gm;split at hp
   ·rename_i hc;obtain⟨rfl,rfl⟩:=hc;simp only[bj,aL]at hp;obtain⟨rfl,rfl⟩:=hp;obtain⟨x,rfl,hx⟩:=C9 dc;cases hx with
    |μ _ _ _ b jf=>
     obtain⟨b',p,v,Df,pj⟩:=N6 (hm.blk id _ gm)
     have:=pj.mb;rw[jf]at this;cases this;have wu:Df≠some b:=fun he=>(pj.qC b he).2.1 rfl;refine D8 hf hb hn (callsIn_wide.2 ((h b p v Df t w pj.heap pj.row wu pj.bytes).mono fun en w' he=>?_));obtain⟨bs,rfl,fb,k1,k2,k3,k4,k5⟩:=he;exact⟨_,rfl,V9 hm ho eB pj k1 k2 k3 k4 k5 (.str _ _ _ fb)⟩
   ·cases hp
  ·cases hp
 ·cases hp
theorem aeR(T e:TypeId):∀args m r m',wT T e args m=some (r,m')->KM m m':=by
 intro args m r m' hp;unfold wT at hp;split at hp
 ·split at hp
  ·split at hp
   ·simp only[bj,aL]at hp;obtain⟨rfl,rfl⟩:=hp;exact KM.set (fun _ h=>by cases h) _
   ·cases hp
  ·cases hp
 ·cases hp
theorem aeQ(T e:TypeId):∀args m r m',wS T e args m=some (r,m')->KM m m':=by
 intro args m r m' hp;unfold wS at hp;split at hp
 ·split at hp
  ·split at hp
   ·simp only[bj,aL]at hp;obtain⟨rfl,rfl⟩:=hp;exact KM.set (fun _ h=>by cases h) _
   ·cases hp
  ·cases hp
 ·cases hp
theorem My{aH:cM}{v:AV}(iO:nJ Fence.wide P base LC gl aH)(Y':∀mem,aH (.fn (.func f) [] []) [] mem=some (v,mem)):mC Fence.wide P base LC gl f (tX v):=by
 intro n g own mem w args r m' bU hm ho eB dc hp;unfold tX at hp;split at hp
 ·simp only[bj,aL]at hp;obtain⟨rfl,rfl⟩:=hp;have hv:bU= #[]:=by have h0:=dc.1;simp at h0;exact Array.size_eq_zero_iff.1 (by omega)
  subst hv;have nT:VR g cd (.fn (.func f) [] []) (.func (.func f) #[] #[]):= .fn _ _ _ _ _ _ _ rfl rfl rfl (fun i hi=>by simp at hi) (fun i hi=>by simp at hi);have:=iO n g cd own mem w _ _ _ _ _ #[] hm ho eB nT dc (Y' mem);have dy:(do let d<-Deferred.ofValue (.func (.func f) #[] #[]) #[];invoke d.target d.args:Sem Next).run P w=(callFunc f #[]).run P w:=by simp only[Deferred.ofValue,Sem.run_bind,Sem.run_pure,Result.andThen_ok,invoke];rfl
  unfold AX at this;rw[dy]at this;exact this
 ·cases hp
end
end Go.ab
