import Derived.Test.YtiigojkfojnedaaGreatDoorRR
import Derived.Lib.AppendStr
import Derived.Lib.Atoi
import Derived.Lib.ItoaNum
import Derived.Lib.Join
import Derived.Lib.Bytealg
set_option linter.all false
set_option maxRecDepth 100000
set_option maxHeartbeats 8000000
open Nat renaming le_trans->uO,lt_of_lt_of_le->kg,le_max_left->xL,le_max_right->xM,lt_or_ge->di,zero_add->lN,le_refl->b_
open Option renaming map_eq_some_iff->bA,map_some->p8,bind_eq_some_iff->B0
open List renaming nil_append->bB,getElem_cons_zero->kz,eq_nil_of_length_eq_zero->nq,append_assoc->bQ,getElem?_eq_none->gW,getElem?_append_left->d_,length_nil->eT,map_cons->ax,getElem?_set_ne->gN,map_map->cT,map_congr_left->dh,getElem?_eq_getElem->dp,range->qW,mem_map->fb,getD_eq_getElem?_getD->nr,getElem_map->iQ,getElem_range->Jx,length_map->cz,length->lK,length_append->cX,length_take->lM,length_set->mN,getElem?_set->vW,getElem?_eq_some_iff->fI
open Array renaming length_toList->vS,getElem?_eq_some_iff->zO
open Go.IntKind renaming u8->akG
open Option.some renaming injEq->a_
open Prod.mk renaming injEq->az
namespace Go.Δ
open Go.RowKit (Below)
section
variable{F:Fence}{n:Nat}{P:Program}{gl:Nat->AV}{base:Nat}{LC:eS}{g:Gh}{own:OW}{mem:Mem}{w w':World}{r:AV}{x:Value}
theorem Y4(hm:aZ g own LC mem w)(ho:bO base own w)(eB:mM g gl)(hb:Below w.heap.size w w')(hv:VR g bP r x):lJ base LC gl g own w r mem x w':=by
 obtain⟨h1,h2,h3,h4,h5⟩:=hb;refine⟨g,eo own,⟨g.eM,h4,h1,h2,h3,fun b hb _=>h5 b hb,fun _ _ h=>by simpa[eo]using h,fun _ _ _ _=>rfl⟩,?_,hv,⟨fun b o hb=>?_,uO ho.base h4⟩,fun b d hb=>?_,eB⟩
 ·refine hm.ba g.eM (fun _ h=>h) (fun _ _ h=>h) (fun id b hb=>⟨by rw[vF hb,hb],h5 b (ho.ge b _ hb).2,fun _=>rfl⟩) (fun b o y hy=>?_);have hc:=hm.im b o y hy;rw[p_ (h5 b (wb hc))];exact hc
 ·have:=ho.ge b o (uw hb).1;exact⟨this.1,kg this.2 h4⟩
 ·obtain⟨_,id,h⟩:=uw hb;cases h
theorem Fj{f:FuncId}{fn:Func}{bI:Array Value}(hf:P.funcs[f]?=some fn)(hb:fn.body.isNone=false)(hn:(fn.name== "runtime.NumGoroutine")=false){R:Value->World->Prop}
  (h:CallsIn F n P f bI w fun e w'=>∃x,e= .returned x/\R x w'):Ph F n P ((callFunc f bI).run P w) w R:=
 .inl ⟨f,bI,Eo hf hb hn,h⟩
theorem Eh{R:AV->Value->Prop}{a:AV}{bI:Array Value}(h:PW R [a] bI.toList):∃x,bI= #[x]/\R a x:=by
 obtain⟨l⟩:=bI
 match l,h with
 |[x],h=>exact⟨x,rfl,h.2 0 (by simp) (by simp)⟩
 |[],h=>exact absurd h.1 (by simp)
 |_::_::_,h=>exact absurd h.1 (by simp)
theorem IT{R:AV->Value->Prop}{a b:AV}{bI:Array Value}(h:PW R [a,b] bI.toList):∃x y,bI= #[x,y]/\R a x/\R b y:=by
 obtain⟨l⟩:=bI
 match l,h with
 |[x,y],h=>exact⟨x,y,rfl,h.2 0 (by simp) (by simp),h.2 1 (by simp) (by simp)⟩
 |[],h=>exact absurd h.1 (by simp)
 |[_],h=>exact absurd h.1 (by simp)
 |_::_::_::_,h=>exact absurd h.1 (by simp)
end
open Classical
noncomputable def ab(C:iF):cg:=fun fv args mem=>
 if h:∃r k,cv C k fv args mem=some r then some h.choose else none
noncomputable def dP:pd:=fun b s=>if h:∃r n,fJ n b s=some r then some h.choose else none
theorem ot{C:iF}{fv args mem r}:ab C fv args mem=some r↔∃k,cv C k fv args mem=some r:=by
 unfold ab;split
 ·rename_i h;obtain⟨k,hk⟩:=h.choose_spec;constructor
  ·intro he;cases he;exact⟨k,hk⟩
  ·rintro⟨k',c8⟩
   have h1:=xX C (xL k k') _ _ _ _ hk;have h2:=xX C (xM k k') _ _ _ _ c8;rw[h1]at h2;exact h2
 ·rename_i h;constructor
  ·intro he;cases he
  ·rintro⟨k,hk⟩;exact absurd ⟨r,k,hk⟩ h
theorem Pz{b:St->Option (Ex×St)}{n m:Nat}(h:n<=m){s r}(hr:fJ n b s=some r):fJ m b s=some r:=
 E3 n m h b b (fun _ _ h=>h) s r hr
theorem Io{b s r}:dP b s=some r↔∃n,fJ n b s=some r:=by
 unfold dP;split
 ·rename_i h;obtain⟨k,hk⟩:=h.choose_spec;constructor
  ·intro he;cases he;exact⟨k,hk⟩
  ·rintro⟨k',c8⟩
   have h1:=Pz (xL k k') hk;have h2:=Pz (xM k k') c8;rw[h1]at h2;exact h2
 ·rename_i h;constructor
  ·intro he;cases he
  ·rintro⟨k,hk⟩;exact absurd ⟨r,k,hk⟩ h
theorem Cc(n:Nat)(b:St->Option (Ex×St))(s:St):fJ (n+1) b s=match b s with
  |some (.normal,s')=>fJ n b s'
  |r=>r:=rfl
theorem ae_{b:St->Option (Ex×St)}{s s':St}(h:b s=some (.normal,s')):dP b s=dP b s':=by
 apply Option.ext;intro r;rw[Io,Io];constructor
 ·rintro⟨n,hn⟩
  cases n with
  |zero=>simp[fJ]at hn
  |succ n=>rw[Cc,h]at hn;exact⟨n,hn⟩
 ·rintro⟨n,hn⟩
  exact⟨n+1,by rw[Cc,h];exact hn⟩
theorem Vv{b:St->Option (Ex×St)}{s:St}{r:Ex×St}(h:b s=some r)(hr:r.1≠ .normal):dP b s=some r:=by rw[Io];refine⟨1,?_⟩;rw[Cc,h];obtain⟨e,s'⟩:=r;cases e<;>simp_all
section
variable{C:iF}{gl:Nat->AV}
theorem X0{ev lk mem dst o r}(h:aJ ev lk mem (ab C) dst o=some r):∃k,aJ ev lk mem (cv C k) dst o=some r:=by
 cases o
 case call f args=>
  simp only[aJ,bA]at h⊢
  obtain⟨x,hx,hr⟩:=h;obtain⟨k,hk⟩:=ot.1 hx;exact⟨k,x,hk,hr⟩
 case callz f args=>
  simp only[aJ]at h⊢
  split at h
  ·rename_i he;obtain⟨k,hk⟩:=ot.1 he;exact⟨k,by rw[hk];exact h⟩
  ·cases h
 all_goals exact⟨0,h⟩
theorem PK{o s r}(h:dR gl (ab C) o s=some r):∃k,dR gl (cv C k) o s=some r:=by
 unfold dR at h⊢;split at h
 ·cases h
 ·split at h
  ·rename_i he;obtain⟨k,hk⟩:=X0 he;exact⟨k,by rw[hk];exact h⟩
  ·cases h
 ·exact⟨0,h⟩
theorem X2{l s r}(h:ef gl (ab C) l s=some r):∃k,ef gl (cv C k) l s=some r:=by
 induction l generalizing s with
 |nil=>exact⟨0,h⟩
 |cons o l ih=>
  simp only[ef]at h⊢
  split at h
  ·rename_i s' he;obtain⟨k1,h1⟩:=PK he;obtain⟨k2,h2⟩:=ih h;refine⟨max k1 k2,?_⟩;rw[E5 (xX C (xL _ _)) h1];exact PC (xX C (xM _ _)) h2
  ·cases h
theorem X5{l s r}(h:eF gl (ab C) l s=some r):∃k,eF gl (cv C k) l s=some r:=by
 induction l generalizing s r with
 |nil=>exact⟨0,h⟩
 |cons o l ih=>
  simp only[eF]at h⊢
  split at h
  ·rename_i s' he;simp only[bA]at h;obtain⟨x,hx,rfl⟩:=h;obtain⟨k1,h1⟩:=PK he;obtain⟨k2,h2⟩:=ih hx;refine⟨max k1 k2,?_⟩;rw[E5 (xX C (xL _ _)) h1];simp only[PJ (xX C (xM _ _)) h2,p8]
  ·cases h
theorem XQ{l cf af s r}(h:ff gl (ab C) l cf af s=some r):∃k,ff gl (cv C k) l cf af s=some r:=by
 unfold ff at h⊢;split at h
 ·rename_i tr he;obtain⟨k,hk⟩:=X5 he;exact⟨k,by rw[hk];exact h⟩
 ·cases h
theorem sD{k k':Nat}(hk:k<=k'){a:AC}{s r}(h:exec gl (cv C k) (fJ k) a s=some r):exec gl (cv C k') (fJ k') a s=some r:=
 FE (xX C hk) (E3 _ _ hk) a s r h
theorem Aq(a:AC):∀s r,exec gl (ab C) dP a s=some r->∃k,exec gl (cv C k) (fJ k) a s=some r:=by
 induction a with
 |skip=>intro s r h;exact⟨0,h⟩
 |ops l=>
  intro s r h
  simp only[exec,bA]at h⊢;obtain⟨x,hx,hr⟩:=h;obtain⟨k,hk⟩:=X2 hx;exact⟨k,x,hk,hr⟩
 |draw l cf af=>
  intro s r h
  simp only[exec,bA]at h⊢;obtain⟨x,hx,hr⟩:=h;obtain⟨k,hk⟩:=XQ hx;exact⟨k,x,hk,hr⟩
 |seq a b dJ gm=>
  intro s r h
  simp only[exec]at h;split at h
  ·rename_i s' he;obtain⟨k1,h1⟩:=dJ _ _ he;obtain⟨k2,h2⟩:=gm _ _ h;exact⟨max k1 k2,by simp only[exec,sD (xL k1 k2) h1];exact sD (xM k1 k2) h2⟩
  ·rename_i φ;obtain⟨k1,h1⟩:=dJ _ _ h;refine⟨k1,?_⟩;simp only[exec,h1];split
   ·rename_i he;cases he;exact absurd h (φ _)
   ·rfl
 |cond x a b dJ gm=>
  intro s r h
  simp only[exec]at h⊢;split at h
  ·split at h
   ·rename_i he ht;obtain⟨k,hk⟩:=dJ _ _ h;exact⟨k,by simp only[ht,if_true];exact hk⟩
   ·rename_i he ht;obtain⟨k,hk⟩:=gm _ _ h;exact⟨k,by simp only[ht];exact hk⟩
  ·cases h
 |block id a dJ=>
  intro s r h
  simp only[exec]at h⊢;split at h
  ·rename_i he;obtain⟨k,hk⟩:=dJ _ _ he;exact⟨k,by rw[hk];exact h⟩
  ·rename_i φ;obtain⟨k,hk⟩:=dJ _ _ h;refine⟨k,?_⟩;rw[hk];split
   ·rename_i he;cases he;exact absurd h (φ _ _)
   ·rfl
 |loop a dJ=>
  intro s r h
  simp only[exec]at h⊢;obtain⟨n,hn⟩:=Io.1 h;have:∀n s,fJ n (exec gl (ab C) dP a) s=some r->∃k,fJ k (exec gl (cv C k) (fJ k) a) s=some r:=by
   intro n;induction n with
   |zero=>intro s h;simp[fJ]at h
   |succ n ih=>
    intro s h
    simp only[fJ]at h;split at h
    ·rename_i s' he;obtain⟨k1,h1⟩:=dJ _ _ he;obtain⟨k2,h2⟩:=ih _ h;refine⟨max k1 k2+1,?_⟩;rw[Cc,sD (show k1<=max k1 k2+1 by omega) h1];exact E3 _ _ (show k2<=max k1 k2 by omega) _ _ (fun s r h=>sD (show k2<=max k1 k2+1 by omega) h) _ _ h2
    ·rename_i φ;obtain⟨k1,h1⟩:=dJ _ _ h;refine⟨k1+1,?_⟩;rw[Cc,sD (show k1<=k1+1 by omega) h1];split
     ·rename_i he;cases he;exact absurd h (φ _)
     ·rfl
  exact this n s hn
 |exit id=>intro s r h;exact⟨0,h⟩
 |ret=>intro s r h;exact⟨0,h⟩
 |xy f ps fK body _ _=>
  intro s r h
  simp only[exec]at h⊢;split at h
  ·rename_i he;obtain⟨fv,h1,h2⟩:=B0.1 he;obtain⟨k,hk⟩:=ot.1 h2;refine⟨k,?_⟩;rw[h1];simp only[Option.bind_some,hk];exact h
  ·cases h
 |Ef ds=>intro s r h;exact⟨0,h⟩
 |bad=>intro s r h;exact⟨0,h⟩
theorem ah3{l args mem r}(h:round (exec gl (ab C) dP) l args mem=some r):∃k,round (exec gl (cv C k) (fJ k)) l args mem=some r:=by
 unfold round at h⊢;split at h
 ·split at h
  ·rename_i hlen;simp only[hlen,if_true];split at h
   ·rename_i he;obtain⟨k1,h1⟩:=Aq _ _ _ he;split at h
    ·rename_i nO;split at h
     ·rename_i lT;obtain⟨k2,h2⟩:=Aq _ _ _ lT;exact⟨max k1 k2,by simp only[sD (xL k1 k2) h1,nO,if_true,sD (xM k1 k2) h2];exact h⟩
     ·rename_i lT;obtain⟨k2,h2⟩:=Aq _ _ _ lT;exact⟨max k1 k2,by simp only[sD (xL k1 k2) h1,nO,if_true,sD (xM k1 k2) h2];exact h⟩
     ·rename_i lT;obtain⟨k2,h2⟩:=Aq _ _ _ lT;exact⟨max k1 k2,by simp only[sD (xL k1 k2) h1,nO,if_true,sD (xM k1 k2) h2];exact h⟩
     ·cases h
    ·cases h
   ·cases h
  ·cases h
 ·cases h
theorem sy{fv args mem r}(h:body C (ab C) dP fv args mem=some r):ab C fv args mem=some r:=by
 apply ot.2;unfold body at h;split at h
 ·split at h
  ·rename_i p hp;exact⟨1,by simp only[cv,body,hp];exact h⟩
  ·rename_i hp;split at h
   ·rename_i g hg;generalize he:exec C.gl (ab C) dP _ _=x at h;cases x with
    |none=>simp[fin]at h
    |some x=>
     obtain⟨k,hk⟩:=Aq _ _ _ he
     exact⟨k+1,by simp only[cv,body,hp,hg,hk];exact h⟩
   ·cases h
 ·split at h
  ·rename_i g hg;generalize he:exec C.gl (ab C) dP _ _=x at h;cases x with
   |none=>simp[fin]at h
   |some x=>
    obtain⟨k,hk⟩:=Aq _ _ _ he
    exact⟨k+1,by simp only[cv,body,hg,hk];exact h⟩
  ·cases h
 ·obtain⟨k,hk⟩:=ah3 h;exact⟨k+1,by simp only[cv,body];exact hk⟩
 ·cases h
end
theorem ae'{b:St->Option (Ex×St)}{I:Nat->St->Prop}{gX:Ex×St->Prop}(n:Nat)
  (step:∀i s,i<=n->I i s->(∃s',b s=some (.normal,s')/\i<n/\I (i+1) s')\/(∃r,b s=some r/\r.1≠ .normal/\gX r)):
  ∀k i s,i+k=n->I i s->∃r,dP b s=some r/\gX r:=by
 intro k;induction k with
 |zero=>
  intro i s hi hI
  rcases step i s (by omega) hI with⟨s',_,h,_⟩|⟨r,h1,h2,h3⟩
  ·omega
  ·exact⟨r,Vv h1 h2,h3⟩
 |succ k ih=>
  intro i s hi hI
  rcases step i s (by omega) hI with⟨s',h1,h,h2⟩|⟨r,h1,h2,h3⟩
  ·obtain⟨r,h3,h4⟩:=ih (i+1) s' (by omega) h2;exact⟨r,by rw[ae_ h1];exact h3,h4⟩
  ·exact⟨r,Vv h1 h2,h3⟩
theorem ae8{gl:Nat->AV}{c:cg}{a:AC}{I:Nat->St->Prop}{gX:Ex×St->Prop}(n:Nat){s:St}(h0:I 0 s)
  (step:∀i s,i<=n->I i s->(∃s',exec gl c dP a s=some (.normal,s')/\i<n/\I (i+1) s')\/(∃r,exec gl c dP a s=some r/\r.1≠ .normal/\gX r)):
  ∃r,exec gl c dP (.loop a) s=some r/\gX r:=by
 simp only[exec];exact ae' n step n 0 s (by omega) h0
def μ(gl:Nat->AV)(c:cg)(a:AC)(s:St)(Q:Ex×St->Prop):Prop:=∃r,exec gl c dP a s=some r/\Q r
theorem μ.seq{gl:Nat->AV}{c:cg}{a b:AC}{s:St}{M:St->Prop}{Q:Ex×St->Prop}(h:μ gl c a s fun r=>(r.1= .normal/\M r.2)\/(r.1≠ .normal/\Q r))(k:∀s',M s'->μ gl c b s' Q):μ gl c (.seq a b) s Q:=by
 obtain⟨⟨e,s'⟩,h1,h2⟩:=h;rcases h2 with⟨rfl,h2⟩|⟨h2,h3⟩
 ·obtain⟨r,h3,h4⟩:=k s' h2;exact⟨r,by simp only[exec,h1];exact h3,h4⟩
 ·refine⟨(e,s'),?_,h3⟩;simp only[exec,h1];cases e<;>simp_all
theorem μ.seq'{gl:Nat->AV}{c:cg}{a b:AC}{s:St}{M:St->Prop}{Q:Ex×St->Prop}(h:∃s',exec gl c dP a s=some (.normal,s')/\M s')(k:∀s',M s'->μ gl c b s' Q):μ gl c (.seq a b) s Q:=by obtain⟨s',h1,h2⟩:=h;exact μ.seq ⟨_,h1,.inl ⟨rfl,h2⟩⟩ k
abbrev AV.n(x:Int):AV:= .int .i64 x
abbrev St.e(s:St)(n:Nat):AV:=br s.env n
abbrev St.q(s:St)(n:Nat):Option (Nat×θ):=bR s.loc n
abbrev kK(B:List θ)(p:Nat)(c:List AV)(x:List θ)(T:List Nat):Mem:= {ε:=B.set p (.cells c)++x,η:=T}
theorem Ψ{gl:Nat→AV}{c:cg}{a b:AC}{s:St}(M:St→Prop){Q:Ex×St→Prop}(h:∃s',exec gl c dP a s=some (.normal,s')∧M s')(k:∀s',M s'→μ gl c b s' Q):μ gl c (.seq a b) s Q:=μ.seq' h k
theorem bS{gl:Nat→AV}{c:cg}{a b:AC}{s:St}(M:St→Prop){Q:Ex×St→Prop}(h:μ gl c a s fun r=>(r.1= .normal∧M r.2)∨(r.1≠ .normal∧Q r))(k:∀s',M s'→μ gl c b s' Q):μ gl c (.seq a b) s Q:=μ.seq h k
attribute [simp] AV.n St.e St.q kK
theorem μ.block{gl:Nat->AV}{c:cg}{a:AC}{i:Nat}{s:St}{Q:Ex×St->Prop}(h:μ gl c a s fun r=>(r.1= .exit i/\Q (.normal,r.2))\/(r.1≠ .exit i/\Q r)):μ gl c (.block i a) s Q:=by
 obtain⟨⟨e,s'⟩,h1,h2⟩:=h;rcases h2 with⟨rfl,h2⟩|⟨h2,h3⟩
 ·exact⟨_,by simp only[exec,h1,if_true],h2⟩
 ·refine⟨(e,s'),?_,h3⟩;simp only[exec,h1];cases e with
  |exit j=>
   have:j≠i:=fun he=>h2 (by rw[he])
   simp only[this,if_false]
  |_=>rfl
theorem μ.loop{gl:Nat->AV}{c:cg}{a:AC}{I:Nat->St->Prop}{Q:Ex×St->Prop}(n:Nat){s:St}(h0:I 0 s)
  (step:∀i s,i<=n->I i s->(i<n/\∃s',exec gl c dP a s=some (.normal,s')/\I (i+1) s')\/(∃r,exec gl c dP a s=some r/\r.1≠ .normal/\Q r)):μ gl c (.loop a) s Q:=
 ae8 n h0 fun i s hi hI=>(step i s hi hI).imp (fun⟨h1,s',h2,h3⟩=>⟨s',h2,h1,h3⟩) id
theorem Ac(m:Mem):m.back {ε:=m.ε,η:=[]}=m:=by cases m;simp[Mem.back,lF]
theorem Yf(m:Mem)(l:List θ):m.back {ε:=m.ε++l,η:=[]}=m:=by cases m;simp[Mem.back,lF]
theorem Kb{C:iF}{f:FuncId}{g:AF}{args:List AV}{m:Mem}{ex:Ex}{s':St}{l:List AV}(hp:C.gM f=none)(hf:C.fs f=some g)(hk:C.ba f=false)
  (hx:exec C.gl (ab C) dP g.code {env:=args.map (exp m.ε.length false),loc:=[],mem:= {ε:=m.ε,η:=[]}}=some (ex,s')) (hex:∀i,ex≠ .exit i) (hl:cF s' g.results=some l):
  ab C (.fn (.func f) [] []) args m=some (aQ s'.mem.ε m.ε.length 8 (cK l),m.back s'.mem):=by
 apply sy;simp only[body,hp,hf,hk,bB,List.append_nil,hx];cases ex with
 |exit i=>exact absurd rfl (hex i)
 |_=>simp only[fin,hl];rfl
theorem sv{C:iF}{f:FuncId}{g:AF}{args cap:List AV}{m:Mem}{ex:Ex}{s':St}{l:List AV}(hp:C.gM f=none)(hf:C.fs f=some g)(hk:C.ba f=true)
  (hx:exec C.gl (ab C) dP g.code {env:=(args++cap).map (exp m.ε.length true),loc:=[],mem:= {ε:=m.ε,η:=[]}}=some (ex,s')) (hex:∀i,ex≠ .exit i) (hl:cF s' g.results=some l):
  ab C (.fn (.func f) [] cap) args m=some (exp s'.mem.ε.length true (cK l),{ε:=s'.mem.ε,η:=m.η++s'.mem.η}):=by
 apply sy;simp only[body,hp,hf,hk,bB,hx];cases ex with
 |exit i=>exact absurd rfl (hex i)
 |_=>simp only[fin,hl];rfl
theorem dt{C:iF}{f:FuncId}{g:AF}{args:List AV}{m:Mem}{v:AV}(hp:C.gM f=none)(hf:C.fs f=some g)(hk:C.ba f=false)
  (hx:μ C.gl (ab C) g.code {env:=args.map (exp m.ε.length false),loc:=[],mem:= {ε:=m.ε,η:=[]}} fun r=>
   (∀i,r.1≠ .exit i)/\(∃bs,r.2.mem= {ε:=m.ε++bs,η:=[]})/\∃l,cF r.2 g.results=some l/\aQ r.2.mem.ε m.ε.length 8 (cK l)=v):ab C (.fn (.func f) [] []) args m=some (v,m):=by
 obtain⟨⟨ex,s'⟩,h1,h2,⟨bs,h3⟩,l,h4,h5⟩:=hx;rw[Kb hp hf hk h1 h2 h4];dsimp only at h3 h5;rw[h5,h3,Yf]
theorem μ.go{gl:Nat->AV}{c:cg}{a b:AC}{s s':St}{Q:Ex×St->Prop}(h:exec gl c dP a s=some (.normal,s'))(k:μ gl c b s' Q):μ gl c (.seq a b) s Q:=
 μ.seq' (M:=fun x=>x=s') ⟨s',h,rfl⟩ fun _ e=>e▸k
theorem μ.mono{gl:Nat->AV}{c:cg}{a:AC}{s:St}{Q Q':Ex×St->Prop}(h:μ gl c a s Q)(k:∀r,Q r->Q' r):μ gl c a s Q':=by obtain⟨r,h1,h2⟩:=h;exact⟨r,h1,k r h2⟩
theorem μ.yes{gl:Nat->AV}{c:cg}{a b:AC}{x:bh}{s:St}{Q:Ex×St->Prop}(hx:dF gl s.env x= .bool true)(h:μ gl c a s Q):μ gl c (.cond x a b) s Q:=by obtain⟨r,h1,h2⟩:=h;exact⟨r,by simp[exec,hx,h1],h2⟩
theorem μ.no{gl:Nat->AV}{c:cg}{a b:AC}{x:bh}{s:St}{Q:Ex×St->Prop}(hx:dF gl s.env x= .bool false)(h:μ gl c b s Q):μ gl c (.cond x a b) s Q:=by obtain⟨r,h1,h2⟩:=h;exact⟨r,by simp[exec,hx,h1],h2⟩
theorem μ.upto{gl:Nat->AV}{c:cg}{a:AC}{I:Nat->St->Prop}{Q:Ex×St->Prop}(n:Nat){s:St}(h0:I 0 s)
  (step:∀i s,i<n->I i s->μ gl c a s fun r=>(r.1= .normal/\I (i+1) r.2)\/(r.1≠ .normal/\Q r)) (last:∀s,I n s->μ gl c a s fun r=>r.1≠ .normal/\Q r):μ gl c (.loop a) s Q:=by
 refine μ.loop n h0 fun i s hi hs=>?_;rcases di i n with h|h
 ·obtain⟨⟨e,s'⟩,h1,h2⟩:=step i s h hs;rcases h2 with⟨rfl,h2⟩|⟨h2,h3⟩
  ·exact .inl ⟨h,s',h1,h2⟩
  ·exact .inr ⟨_,h1,h2,h3⟩
 ·have:i=n:=by omega
  subst this;obtain⟨r,h1,h2,h3⟩:=last s hs;exact .inr ⟨r,h1,h2,h3⟩
theorem UT{C:iF}{f:FuncId}{g:AF}{args cap:List AV}{m m':Mem}{v:AV}(hp:C.gM f=none)(hf:C.fs f=some g)(hk:C.ba f=true)
  (hx:μ C.gl (ab C) g.code {env:=(args++cap).map (exp m.ε.length true),loc:=[],mem:= {ε:=m.ε,η:=[]}} fun r=>
   (∀i,r.1≠ .exit i)/\(r.2.mem= {ε:=m'.ε,η:=[]})/\∃l,cF r.2 g.results=some l/\exp m'.ε.length true (cK l)=v) (ht:m'.η=m.η):ab C (.fn (.func f) [] cap) args m=some (v,m'):=by
 obtain⟨⟨ex,s'⟩,h1,h2,h3,l,h4,h5⟩:=hx;rw[sv hp hf hk h1 h2 h4];dsimp only at h3 h5;rw[h3];cases m';simp_all
theorem ku{C:iF}{f:FuncId}{g:AF}{fst args cap:List AV}{m:Mem}{v:AV}{B:List θ}(hp:C.gM f=none)(hf:C.fs f=some g)(hk:C.ba f=false)(hB:B.length=m.ε.length)
  (hx:μ C.gl (ab C) g.code {env:=(fst++args++cap).map (exp m.ε.length false),loc:=[],mem:= {ε:=m.ε,η:=[]}} fun r=>
   (∀i,r.1≠ .exit i)/\(∃bs,r.2.mem= {ε:=B++bs,η:=[]})/\∃l,cF r.2 g.results=some l/\aQ r.2.mem.ε m.ε.length 8 (cK l)=v):ab C (.fn (.func f) fst cap) args m=some (v,{ε:=B,η:=m.η}):=by
 obtain⟨⟨ex,s'⟩,h1,h2,⟨bs,h3⟩,l,h4,h5⟩:=hx;have:ab C (.fn (.func f) fst cap) args m=some (aQ s'.mem.ε m.ε.length 8 (cK l),m.back s'.mem):=by
  apply sy;simp only[body,hp,hf,hk,h1];cases ex with
  |exit i=>exact absurd rfl (h2 i)
  |_=>simp only[fin,h4];rfl
 rw[this];dsimp only at h3 h5;rw[h5,h3];simp[Mem.back,lF,<-hB]
theorem sw{C:iF}{f:FuncId}{g:AF}{fst args cap:List AV}{m:Mem}{v:AV}(hp:C.gM f=none)(hf:C.fs f=some g)(hk:C.ba f=false)
  (hx:μ C.gl (ab C) g.code {env:=(fst++args++cap).map (exp m.ε.length false),loc:=[],mem:= {ε:=m.ε,η:=[]}} fun r=>
   (∀i,r.1≠ .exit i)/\(∃bs,r.2.mem= {ε:=m.ε++bs,η:=[]})/\∃l,cF r.2 g.results=some l/\aQ r.2.mem.ε m.ε.length 8 (cK l)=v):ab C (.fn (.func f) fst cap) args m=some (v,m):=
 ku hp hf hk rfl hx
def first{α:Type}(f:α->Int):List α->Int
 |[]=>0
 |x::l=>if f x≠0 then f x else first f l
theorem K_{α:Type}{f:α->Int}{l:List α}{i:Nat}(hi:i<l.length)(h:∀j (hj:j<l.length),j<i->f l[j]=0)(φ:f l[i]≠0):first f l=f l[i]:=by
 induction l generalizing i with
 |nil=>simp at hi
 |cons a l ih=>
  cases i with
  |zero=>simp only[kz]at φ⊢;simp[first,φ]
  |succ i=>
   have h0:=h 0 (by simp) (by omega)
   simp only[kz]at h0;simp only[List.getElem_cons_succ]at φ⊢;simp only[first,h0,ne_eq,not_true_eq_false,if_false];exact ih (by simpa using hi) (fun j hj lU=>by have:=h (j+1) (by simp;omega) (by omega);simpa using this) φ
theorem FJ{α:Type}{f:α->Int}{l:List α}(h:∀j (hj:j<l.length),f l[j]=0):first f l=0:=by
 induction l with
 |nil=>rfl
 |cons a l ih=>
  have h0:=h 0 (by simp)
  simp only[kz]at h0;simp only[first,h0,ne_eq,not_true_eq_false,if_false];exact ih fun j hj=>by have:=h (j+1) (by simp;omega);simpa using this
theorem Cf{P:Nat->Prop}{i n:Nat}(h:∀j,j<n->j<i->P j)(hi:P i):∀j,j<n->j<i+1->P j:=fun j hj lU=>by
 rcases di j i with h'|h'
 ·exact h j hj h'
 ·have:j=i:=by omega
  subst this;exact hi
theorem eK{k n:Int}(h:k≠n):(k==n)=false:=by simpa using h
theorem bne_true{k n:Int}(h:k≠n):(k !=n)=true:=by simpa using h
def Row(n:Nat)(bs:List θ)(sz:Nat)(e:TypeId)(c:τ)(len:Nat):Prop:=((c= .nil\/c= .full)/\len=0)\/∃t,c= .own t/\n<=t/\bs[t]?=some (.front len sz e)
theorem Row.nil{n:Nat}{bs:List θ}{sz:Nat}{e:TypeId}:Row n bs sz e .nil 0:= .inl ⟨.inl rfl,rfl⟩
theorem Row.full{n:Nat}{bs:List θ}{sz:Nat}{e:TypeId}:Row n bs sz e .full 0:= .inl ⟨.inr rfl,rfl⟩
structure XF (n:Nat) (bs lP:List θ) (e:TypeId):Prop where
 rows:∀eN e' c' k',e'≠e->Row n bs eN e' c' k'->Row n lP eN e' c' k'
 len:bs.length<=lP.length
 nW:∀t,(∀k sz,bs[t]?≠some (.front k sz e))->t<bs.length->lP[t]?=bs[t]?
theorem vI{B ext:List θ}{ag:Bool}{sz bytes:Nat}{e:TypeId}{c:τ}{l:List AV}{v:AV}(h:Row B.length (B++ext) sz e c l.length)(hl:l.all (shaped ag sz)=true)(hv:shaped ag sz v=true)(hn:ν v=v)
  (hs:0<sz) (hb:(l.length+1)*bytes<=140737488355328) (aW:l.length+1<=140737488355328):
  ∃c' ext',(∀T,iq {ε:=B++ext,η:=T} ag sz bytes e (.list c l) (.list .full [v])=some (.list c' (l++[v]),{ε:=B++ext',η:=T}))/\Row B.length (B++ext') sz e c' (l.length+1)/\XF B.length (B++ext) (B++ext') e:=by
 rcases h with⟨hc,h0⟩|⟨t,rfl,h1,h2⟩
 ·have:l=[]:=nq h0;subst this;refine⟨.own (B.length+ext.length),ext++[.front 1 sz e],fun T=>?_,.inr ⟨_,rfl,by omega,?_⟩,⟨fun eN e' c' k' he hr=>?_,by simp,fun t _ ht=>?_⟩⟩
  ·have q1:bytes<=140737488355328:=by simpa using hb
   rcases hc with rfl|rfl<;>simp[iq,hv,hs,Mem.push,Mem.ν,hn,q1]
  ·rw[<-bQ];have:B.length+ext.length=(B++ext).length:=by simp
   rw[this];simp
  ·rcases hr with⟨h1,rfl⟩|⟨t,rfl,h1,h2⟩
   ·exact .inl ⟨h1,rfl⟩
   ·refine .inr ⟨t,rfl,h1,?_⟩;rw[<-bQ];have ht:t<(B++ext).length:=by
     rcases di t (B++ext).length with h|h
     ·exact h
     ·rw[gW h]at h2;cases h2
    rw[d_ ht];exact h2
  ·rw[<-bQ,d_ ht]
 ·have ht:t<(B++ext).length:=by
   rcases di t (B++ext).length with h|h
   ·exact h
   ·rw[gW h]at h2;cases h2
  have lB:(B++ext).set t (.front (l.length+1) sz e)=B++ext.set (t-B.length) (.front (l.length+1) sz e):=by rw[List.set_append,if_neg (by omega)]
  refine⟨.own t,ext.set (t-B.length) (.front (l.length+1) sz e),fun T=>?_,.inr ⟨t,rfl,h1,?_⟩,⟨fun eN e' c' k' he hr=>?_,by simp,fun t' hf vq=>?_⟩⟩
  ·simp only[iq];simp only[List.all_cons,hv,List.all_nil,Bool.and_self,hl,hs,decide_true,List.length_cons,eT,lN,hb,aW,h2,Bool.true_and,if_true,and_self,ax,List.map_nil,Mem.ν,hn,Mem.put,lB]
  ·rw[<-lB,List.getElem?_set_self ht]
  ·rcases hr with⟨h3,rfl⟩|⟨t',rfl,h3,h4⟩
   ·exact .inl ⟨h3,rfl⟩
   ·refine .inr ⟨t',rfl,h3,?_⟩;have:t≠t':=by
     rintro rfl
     rw[h2]at h4;cases h4;exact he rfl
    rw[<-lB,gN this];exact h4
  ·have:t≠t':=by
    rintro rfl
    exact hf _ _ h2
   rw[<-lB,gN this]
mutual
theorem AV.beq_refl:∀a:AV,AV.beq a a=true
 | .undef| .cR| .ig| .eQ| .gq| .fQ=>rfl
 | .int _ _| .bool _| .str _| .ak _ _ _| .κ _ _| .sl _ _ _ _ _| .map _=>by simp[AV.beq]
 | .ref l=>by simp only[AV.beq];exact AV.kC l
 | .list _ l=>by simp[AV.beq,AV.kC l]
 | .agg l=>by simp only[AV.beq];exact AV.kC l
 | .aU l=>by simp only[AV.beq];exact AV.kC l
 | .fn _ a b=>by simp[AV.beq,AV.kC a,AV.kC b]
 | .iface _ v=>by simp[AV.beq,AV.beq_refl v]
theorem AV.kC:∀l:List AV,AV.gO l l=true
 |[]=>rfl
 |a::l=>by simp[AV.gO,AV.beq_refl a,AV.kC l]
end
structure Lv (n:Nat) (v w:AV):Prop where
 z:∀bs,aQ bs n 8 v=w
 n:ν v=v
structure EP (ag:Bool) (n sz:Nat) (l ws:List AV):Prop where
 z:∀bs,l.map (aQ bs n 8)=ws
 n:l.map ν=l
 s:l.all (shaped ag sz)=true
theorem CI(bs:List θ)(n:Nat)(c:τ)(l:List AV):aQ bs n 8 (.list c l)= .list (c.exp n false) (l.map (aQ bs n 8)):=by simp only[aQ,fC,qc]
theorem Lv.str(n:Nat)(s:List Nat):Lv n (.str s) (.str s):=⟨fun _=>rfl,rfl⟩
theorem FM(bs:List θ)(n:Nat)(l:List AV):aQ bs n 8 (.agg l)= .agg (l.map (aQ bs n 8)):=by simp only[aQ,fC,qc]
theorem EP.of{ag:Bool}{n sz:Nat}{α:Type}(f:α->AV)(l:List α)(h:∀x∈l,Lv n (f x) (f x)/\shaped ag sz (f x)=true):EP ag n sz (l.map f) (l.map f):=by
 refine⟨fun bs=>?_,?_,?_⟩
 ·rw[cT];exact dh fun x hx=>(h x hx).1.z bs
 ·rw[cT];exact dh fun x hx=>(h x hx).1.n
 ·simp only[List.all_map,List.all_eq_true,Function.comp];exact fun x hx=>(h x hx).2
def kG(w:World):Gh:=⟨fun b o=>w.cell? ⟨b,o,none⟩,fun _=>none,fun _ _=>none⟩
theorem afc(w:World)(own:OW)(LC:eS):aZ (kG w) own LC {ε:=[],η:=[]} w:=
 ⟨fun _ _ h=>(by cases h),fun _ _ _ h=>(by cases h),fun _ _ h=>(by simp at h),fun _ _ _ h=>h⟩
theorem age(w:World):bO w.heap.size (fun _=>none) w:=⟨fun _ _ h=>(by cases h),b_ _⟩
section
variable{H:Type}{enc:TypeId×Value->H}{P:Program}{w:World}{base:Nat}{spare:Nat->Bool}{held:Bool}
theorem Xq{t e:TypeId}(hu:P.underlying t=some (.slice e)){A:AV->DataW H->Prop}{sz:Nat}(aO:P.cellsOf e=sz)(h0:0<sz){fuel:Nat}{cs:List Value}{x:DataW H×List MemPlace}
  (abd:∀n,n<fuel->∀cs y,DataW.trod enc P w base spare held n e cs=some y->cs.length=sz→
   ∃el,A el y.1/\PW (VR (kG w) bP) el.cells cs/\∀v∈cs,v.oneCell'=true)
  (h:DataW.trod enc P w base spare held fuel t cs=some x):
  ∃v:Value,cs=[v]/\v.oneCell'=true/\((VR (kG w) bP (.list .nil []) v/\x.1= .nil)\/∃(l:List AV) (ds rest:List (DataW H)),VR (kG w) bP (.list .any l) v/\x.1= .slice ds rest/\l.length=ds.length∧
   ∀i (h:i<l.length) (h':i<ds.length),A l[i] ds[i]):=by
 rcases DataW.trod_slice hu h with⟨rfl,rfl⟩|⟨a,len,cap,elems,rest,n,rfl,rfl,rfl,hb,kW,C6,C_,Ux,-,-⟩
 ·exact⟨_,rfl,rfl,.inl ⟨.iM _,rfl⟩⟩
 ·rw[aO]at Ux;have each:∀i (hi:i<len),∃el cs,A el (elems[i]'(by omega)).1/\PW (VR (kG w) bP) el.cells cs/\(∀v∈cs,v.oneCell'=true)/\cs.length=sz/\∀j,j<sz->w.cell? ((a.add (i*sz)).add j)=cs[j]?:=by intro i hi;have hr:=Ux i hi;rw[dp (by omega)]at hr;obtain⟨ah,gQ,ht⟩:=B0.1 hr;obtain⟨-,hl,mU⟩:=World.cells?_some gQ;obtain⟨el,k1,k2,k3⟩:=abd n (by omega) ah _ ht hl;exact⟨el,ah,k1,k2,k3,hl,mU⟩
  by_cases hlen:len=0
  ·subst hlen;exact⟨_,rfl,rfl,.inr ⟨[],_,_,.h_ _ _ _ _ (.inl rfl),rfl,by simpa using C_.symm,fun i h=>absurd h (Nat.not_lt_zero _)⟩⟩
  ·obtain⟨b,o,spot⟩:=a;have ab3:spot=none:=by obtain⟨el,ah,-,-,-,hl,mU⟩:=each 0 (by omega);have g0:=mU 0 h0;rw[dp (by omega)]at g0;simpa[Addr.add]using World.cell?_spot g0
   subst ab3;have hex:∃F:Nat->AV×List Value,∀i (hi:i<len),A (F i).1 (elems[i]'(by omega)).1/\PW (VR (kG w) bP) (F i).1.cells (F i).2/\(∀v∈(F i).2,v.oneCell'=true)/\(F i).2.length=sz∧
     ∀j,j<sz->w.cell? ⟨b,o+(i*sz+j),none⟩=(F i).2[j]?:=by
    refine⟨fun i=>if hi:i<len then((each i hi).choose,(each i hi).choose_spec.choose)else(.undef,[]),fun i hi=>?_⟩;simp only[dif_pos hi];obtain⟨k1,k2,k3,k4,k5⟩:=(each i hi).choose_spec.choose_spec;refine⟨k1,k2,k3,k4,fun j hj=>?_⟩;rw[<-k5 j hj,Addr.add_mid,Addr.add_mid,Nat.add_assoc]
   obtain⟨F,hF⟩:=hex;refine⟨_,rfl,rfl,.inr ⟨(qW len).map fun i=>(F i).1,_,_,?_,rfl,by simp[C_],fun i hi ae=>?_⟩⟩
   ·refine .list _ .any _ b o sz len cap (fun i j=>(F i).2.getD j Go.undef) (by simp) kW trivial (fun e he=>?_) (fun i hi j hj=>?_) (fun i hi j hj=>?_)
    ·obtain⟨i,hi,rfl⟩:=fb.1 he;have hi:=List.mem_range.1 hi;obtain⟨k1,k2,k3,k4,k5⟩:=hF i hi;rw[k2.1,k4]
    ·obtain⟨k1,k2,k3,k4,k5⟩:=hF i hi;have e1:(F i).2[j]?=some (F i).2[j]:=dp (by omega);refine⟨?_,?_⟩
     ·show w.cell? ⟨b,o+(i*sz+j),none⟩=_;rw[k5 j hj,e1,nr,e1];rfl
     ·rw[nr,e1];exact k3 _ (List.getElem_mem _)
    ·have ae:i<len:=by simpa using hi
     obtain⟨k1,k2,k3,k4,k5⟩:=hF i ae;simp only[iQ,Jx]at hj⊢;have tZ:j<(F i).2.length:=by rw[<-k2.1];exact hj
     have:=k2.2 j hj tZ;rw[nr,dp tZ];exact this
   ·have ja:i<len:=by simpa using hi
    simp only[iQ,Jx];exact(hF i ja).1
end
open Go.Lib (strCells strCells_length run_append_grow_string run_append_room_string run_firstCells_string)
def pn(w:World)(e:TypeId)(s:List Nat)(v:Value)(r:Option Nat):Prop:=
 (v= .slice none 0 0/\s=[]/\r=none)\/∃(g cap:Nat) (cur:Array Value),r=some g/\v= .slice (some ⟨g,0,none⟩) s.length cap/\s≠[]∧
  w.heap[g]?=some (.cells cur e (0,0))/\cur.size=cap/\s.length<=cap/\cap<=maxLen/\∀i (h:i<s.length),cur[i]?=some (.int .u8 s[i])
theorem ai0(s:ByteArray)(i:Nat)(h:i<(s.data.toList.map UInt8.toNat).length):(strCells s)[i]?=some (.int .u8 ((s.data.toList.map UInt8.toNat)[i]:Nat)):=by
 have h':i<s.data.size:=by simpa using h
 simp only[strCells,List.getElem?_map,iQ];rw[dp (by simpa using h')];rfl
theorem Yn{P:Program}{w:World}{t u ty e:TypeId}{i:TypeInfo}(ht:P.underlying t=some (.slice e))(hu:P.underlying u=some .string)(hi:P.info? e=some i)(hz:i.zero=some (.int .u8 0))
  (DE:i.size=1) (Hm:i.bytes=1) {v:Value} {r:Option Nat} {q:List Nat} (hv:pn w e q v r) (s:ByteArray) (hlen:q.length+s.size<=140737488355328):
  ∃(v':Value) (w':World) (r':Option Nat),(Builtin.append_ #[t,u] ty #[v,.string s]).run P w= .ok v' w'/\pn w' e (q++s.data.toList.map UInt8.toNat) v' r'/\(r'=r\/r'=some w.heap.size)∧
   w.heap.size<=w'.heap.size/\w'.os=w.os/\w'.tape=w.tape/\w'.output=w.output/\(∀k,k<w.heap.size->r≠some k->w'.heap[k]?=w.heap[k]?):=by
 have jK:∀n nW,n<=140737488355328->grownCap w n nW e<=maxLen:=fun n nW h=>grownCap_le_maxLen w n nW e (by have:maxLen=9223372036854775807:=rfl;omega);have jW:(s.data.toList.map UInt8.toNat).length=s.size:=by rw[cz,vS];rfl
 rcases hv with⟨rfl,rfl,rfl⟩|⟨g,cap,cur,rfl,rfl,φ,hg,iZ,kW,C6,jr⟩
 ·simp only[eT,lN]at hlen;by_cases hm:s.size=0
  ·have hn:s.data.toList.map UInt8.toNat=[]:=nq (by rw[jW];exact hm);refine⟨.slice none 0 0,w,none,?_,.inl ⟨rfl,by rw[hn];rfl,rfl⟩,.inl rfl,b_ _,rfl,rfl,rfl,fun _ _ _=>rfl⟩;have hf:=run_firstCells_string (P:=P) w 1 s;rw[hm]at hf;have DD:strCells s=[]:=nq (by rw[strCells_length,hm]);rw[DD]at hf;simp[Builtin.append_,run_underlying ht,run_underlying hu,sizeOf,typeInfo,hi,DE,Builtin.lenOf,hm,hf]
  ·have hr:=run_append_nil_string (P:=P) w t u ty e i (.int .u8 0) ht hu hi hz s (by omega) (by omega) (by rw[Hm];omega);refine⟨_,_,some w.heap.size,hr,.inr ⟨w.heap.size,grownCap w s.size 0 e,_,rfl,?_,?_,qi w.drew _,?_,?_,jK _ _ hlen,fun j hj=>?_⟩,.inr rfl,?_,rfl,rfl,rfl,fun k hk _=>tU w.drew _ hk⟩
   ·simp[jW]
   ·intro h0;rw[bB]at h0;have:=congrArg lK h0;rw[jW]at this;exact hm this
   ·have fX:(Value.int akG 0).cells.size=1:=rfl;have:=grownCap_ge w s.size 0 e;have L4:s.data.size=s.size:=rfl;rw[Array.size_append,Array.size_map,size_zeroCells,fX,L4];omega
   ·simp only[bB,jW];exact grownCap_ge w _ _ e
   ·simp only[bB]at hj⊢;have dI:j<s.data.size:=by simpa using hj
    rw[Array.getElem?_append_left (by simpa using dI),Array.getElem?_map,Array.getElem?_eq_getElem dI];simp
   ·show w.heap.size<=(w.heap.push _).size;simp
 ·have aba:∀j u,(cur.toList.take q.length)[j]?=some u->w.cell? ((⟨g,0,none⟩:Addr).add j)=some u:=by
   intro j u hj;rw[List.getElem?_take]at hj;split at hj
   ·rw[Addr.add_mid];simpa[World.cell?,hg]using hj
   ·cases hj
  have HK:(q++s.data.toList.map UInt8.toNat)≠[]:=by simp[φ]
  have mU:∀j (hj:j<(q++s.data.toList.map UInt8.toNat).length),(cur.toList.take q.length++strCells s)[j]?=some (.int .u8 ((q++s.data.toList.map UInt8.toNat)[j]:Nat)):=by
   intro j hj;have eA:(cur.toList.take q.length).length=q.length:=by simp;omega
   rcases di j q.length with h|h
   ·rw[d_ (by omega),List.getElem?_take_of_lt h,List.getElem_append_left h,<-jr j h];simp
   ·rw[List.getElem?_append_right (by omega),List.getElem_append_right h,eA];exact ai0 s (j-q.length) (by simp at hj⊢;omega)
  by_cases ub:q.length+s.size<=cap
  ·have hr:=run_append_room_string (P:=P) w t u ty e i ht hu hi DE g q.length cap cur hg s ub (by omega);refine⟨_,_,some g,hr,.inr ⟨g,cap,_,rfl,by rw[cX,jW],HK,setRow_heap w g cur _ e _ hg,?_,by rw[cX,jW];exact ub,C6,fun j hj=>?_⟩,.inl rfl,by simp,rfl,rfl,rfl,
    fun k _ hk=>setRow_other w g k _ (fun e=>hk (by rw[e]))⟩
   ·simp only[List.size_toArray,cX,lM,List.length_drop,vS,strCells_length];omega
   ·have dI:j<(cur.toList.take q.length++strCells s).length:=by rw[cX,jW]at hj;have eA:cur.toList.length=cur.size:=vS;rw[cX,strCells_length,lM];omega
    have:=mU j hj;rw[List.getElem?_toArray,d_ dI];exact this
  ·have hr:=run_append_grow_string (P:=P) w t u ty e i (.int .u8 0) ht hu hi hz ⟨g,0,none⟩ q.length cap (cur.toList.take q.length) (by rw[DE];simp;omega) aba s (by omega) (by omega) (by rw[Hm];exact growslice_fits (by omega) (by omega));refine⟨_,_,some w.heap.size,hr,.inr ⟨w.heap.size,grownCap w (q.length+s.size) cap e,_,rfl,by rw[cX,jW],HK,qi w.drew _,?_,?_,jK _ _ (by omega),fun j hj=>?_⟩,.inr rfl,?_,rfl,rfl,rfl,fun k hk _=>tU w.drew _ hk⟩
   ·have fX:(Value.int akG 0).cells.size=1:=rfl;have:=grownCap_ge w (q.length+s.size) cap e;simp[size_zeroCells,fX,strCells_length];omega
   ·rw[cX,jW];exact grownCap_ge w _ _ e
   ·have dI:j<(cur.toList.take q.length++strCells s).length:=by rw[cX,jW]at hj;have eA:cur.toList.length=cur.size:=vS;rw[cX,strCells_length,lM];omega
    have:=mU j hj;rw[<-this];simp only[<-Array.getElem?_toList,Array.toList_append];rw[d_ (by simpa using dI)]
   ·show w.heap.size<=(w.heap.push _).size;simp
section
variable{P:Program}{gl:Nat->AV}{base:Nat}{LC:eS}{g:Gh}{own:OW}{mem:Mem}{w w':World}
structure BO (g:Gh) (own:OW) (w:World) (id:Nat) (T e:TypeId) (s:List Nat) (b:Nat) (p v:Value) (r:Option Nat):Prop where
 mb:g.mb id=some b
 owned:own b=some (.m id)
 im:∀o,g.im b o=none
 heap:w.heap[b]?=some (.cells #[p,v] T (0,0))
 ptr:p= .pointer none\/p= .pointer (some ⟨b,0,none⟩)
 bytes:∀x∈s,x<256
 row:pn w e s v r
 qR:∀k,r=some k->own k=some (.m id)/\k≠b/\∀o,g.im k o=none
theorem PX{id:Nat}{T e:TypeId}{s:List Nat}(h:tA g own LC w id (.ny T e s)):∃b p v r,BO g own w id T e s b p v r:=by
 obtain⟨b,h1,h2,h3,p,v,h4,h5,h6,⟨rfl,rfl⟩|⟨r,cap,cur,q1,q2,q3,q4,q5,q6,q7,q8,q9,nf⟩⟩:=h
 ·exact⟨b,p,_,none,h1,h2,h3,h4,h5,h6,.inl ⟨rfl,rfl,rfl⟩,fun k hk=>(by cases hk)⟩
 ·exact⟨b,p,v,some r,h1,h2,h3,h4,h5,h6,.inr ⟨r,cap,cur,rfl,q1,q5,q6,q7,q8,q9,nf⟩,fun k hk=>(by cases hk;exact⟨q2,q3,q4⟩)⟩
theorem Yq{id:Nat}{T e:TypeId}{s:List Nat}{b:Nat}{p v:Value}{r:Option Nat}(h:BO g own w id T e s b p v r):tA g own LC w id (.ny T e s):=by
 refine⟨b,h.mb,h.owned,h.im,p,v,h.heap,h.ptr,h.bytes,?_⟩;rcases h.row with⟨h1,h2,h3⟩|⟨r',cap,cur,hr,q1,q5,q6,q7,q8,q9,nf⟩
 ·exact .inl ⟨h1,h2⟩
 ·obtain⟨k1,k2,k3⟩:=h.qR r' hr;exact .inr ⟨r',cap,cur,q1,k1,k2,k3,q5,q6,q7,q8,q9,nf⟩
theorem Yp{id:Nat}{T e:TypeId}{s:List Nat}{b:Nat}{p v:Value}{r:Option Nat}(h:BO g own w id T e s b p v r):b<w.heap.size:=(zO.1 h.heap).1
theorem Yr(hm:aZ g own LC mem w)(ho:bO base own w)(eB:mM g gl){id:Nat}{T e:TypeId}{s s':List Nat}{b:Nat}{p v p' v':Value}{r r':Option Nat}(hid:id<mem.ε.length)
  (hb:BO g own w id T e s b p v r) (aO:w.heap.size<=w'.heap.size) (MI:w'.os=w.os) (M9:w'.tape=w.tape) (MJ:w'.output=w.output)
  (hk:∀k,k<w.heap.size->k≠b->r≠some k->w'.heap[k]?=w.heap[k]?)
  (hh:w'.heap[b]?=some (.cells #[p',v'] T (0,0))) (hp:p'= .pointer none\/p'= .pointer (some ⟨b,0,none⟩)) (hs:∀x∈s',x<256) (hH:pn w' e s' v' r')
  (hr:r'=r\/∃k,r'=some k/\w.heap.size<=k) {rv:AV} {x:Value} (hv:VR g bP rv x):lJ base LC gl g own w rv (mem.put id (.ny T e s') true) x w':=by
 have AM:=hb.owned;have hold:∀k,k<w.heap.size->r'=some k->r=some k:=by
  intro k c8 MV;rcases hr with h|⟨k0,h,eH⟩
  ·rw[<-h];exact MV
  ·rw[h]at MV;cases MV;omega
 let aD:OW:=fun k=>if r'=some k then some (.m id)else eo own k;have eZ:∀k,r'=some k->k<w'.heap.size:=by
  intro k c8;rcases hH with⟨_,_,h3⟩|⟨g1,cap,cur,h1,_,_,h4,_⟩
  ·rw[h3]at c8;cases c8
  ·rw[h1]at c8;cases c8;exact(zO.1 h4).1
 have φ:∀k mF,own k=some (.m mF)->mF≠id->k<w.heap.size/\k≠b/\r≠some k/\r'≠some k:=by
  intro k mF c8 φ;have ψ:=(ho.ge k _ c8).2;have h2:r≠some k:=fun h=>by have:=(hb.qR k h).1;rw[this]at c8;cases c8;exact φ rfl
  exact⟨ψ,fun h=>(by rw[h,AM]at c8;cases c8;exact φ rfl),h2,fun h=>h2 (hold k ψ h)⟩
 have Mj:∀k o y,g.im k o=some y->k≠b/\r≠some k:=fun k o y hy=>⟨fun h=>(by rw[h,hb.im]at hy;cases hy),fun h=>(by rw[(hb.qR k h).2.2]at hy;cases hy)⟩;refine⟨g,aD,⟨g.eM,aO,MI,M9,MJ,fun k ψ hn=>?_,fun k ψ hn=>?_,fun _ _ _ _=>rfl⟩,⟨fun i c hc=>?_,fun t n y hy=>?_,fun i blk hi=>?_,fun k o y hy=>?_⟩,hv,⟨fun k o Dh=>?_,uO ho.base aO⟩,fun k d hd=>?_,eB⟩
 ·refine hk k ψ (fun h=>?_) (fun h=>?_)
  ·rw[h,vF AM]at hn;cases hn
  ·rw[vF (hb.qR k h).1]at hn;cases hn
 ·simp only[aD];split
  ·rename_i h;rw[vF (hb.qR k (hold k ψ h)).1]at hn;cases hn
  ·exact hn
 ·simp only[Mem.put,mN];exact hm.jq i c hc
 ·simp only[Mem.put,mN];exact hm.nj t n y hy
 ·simp only[Mem.put,vW]at hi;split at hi
  ·rename_i yC;subst yC;simp only[a_]at hi;subst hi;refine Yq ⟨hb.mb,?_,hb.im,hh,hp,hs,hH,fun k c8=>⟨by simp only[aD];rw[if_pos c8],?_,fun o=>?_⟩⟩
   ·simp only[aD];split
    ·rfl
    ·exact vF AM
   ·intro h;have ψ:=Yp hb;exact(hb.qR k (hold k (by omega) c8)).2.1 h
   ·cases hx:g.im k o with
    |none=>rfl
    |some y=>
     have h1:=wb (hm.im k o y hx)
     have:=(hb.qR k (hold k h1 c8)).2.2 o;rw[this]at hx;cases hx
  ·rename_i yC;refine(hm.blk i blk hi).ba g.eM (fun k c8=>?_) (fun _ h=>h) (fun h=>h);obtain⟨k1,k2,k3,k4⟩:=φ k i c8 (fun h=>yC h.symm);exact⟨by simp only[aD];rw[if_neg k4,vF c8,c8],hk k k1 k2 k3,fun _=>rfl⟩
 ·have hc:=hm.im k o y hy;obtain⟨k1,k2⟩:=Mj k o y hy;rw[p_ (hk k (wb hc) k1 k2)];exact hc
 ·simp only[aD]at Dh;split at Dh
  ·rename_i h;refine⟨?_,eZ k h⟩;rcases di k w.heap.size with hl|hl
   ·exact(ho.ge k _ (hb.qR k (hold k hl h)).1).1
   ·exact uO ho.base hl
  ·have:=ho.ge k o (uw Dh).1;exact⟨this.1,kg this.2 aO⟩
 ·simp only[aD]at hd;split at hd
  ·cases hd
  ·obtain⟨_,i,h⟩:=uw hd;cases h
theorem Yo(hm:aZ g own LC mem w)(ho:bO base own w)(eB:mM g gl){id:Nat}{T e:TypeId}{s:List Nat}{b:Nat}{p v:Value}{r:Option Nat}
  (hb:BO g own w id T e s b p v r) (aO:w.heap.size<=w'.heap.size) (MI:w'.os=w.os) (M9:w'.tape=w.tape) (MJ:w'.output=w.output)
  (hk:∀k,k<w.heap.size->r≠some k->w'.heap[k]?=w.heap[k]?) {rv:AV} {x:Value} (hv:VR g bP rv x):lJ base LC gl g own w rv (mem.put id .dead true) x w':=by
 have Mj:∀k o y,g.im k o=some y->r≠some k:=fun k o y hy h=>by rw[(hb.qR k h).2.2]at hy;cases hy
 refine⟨g,eo own,⟨g.eM,aO,MI,M9,MJ,fun k ψ hn=>?_,fun k ψ hn=>by simpa[eo]using hn,fun _ _ _ _=>rfl⟩,⟨fun i c hc=>?_,fun t n y hy=>?_,fun i blk hi=>?_,fun k o y hy=>?_⟩,hv,⟨fun k o Dh=>?_,uO ho.base aO⟩,fun k d hd=>?_,eB⟩
 ·refine hk k ψ (fun h=>?_);rw[vF (hb.qR k h).1]at hn;cases hn
 ·simp only[Mem.put,mN];exact hm.jq i c hc
 ·simp only[Mem.put,mN];exact hm.nj t n y hy
 ·simp only[Mem.put,vW]at hi;split at hi
  ·split at hi
   ·cases hi;trivial
   ·cases hi
  ·rename_i yC;refine(hm.blk i blk hi).ba g.eM (fun k c8=>?_) (fun _ h=>h) (fun h=>h);refine⟨by rw[vF c8,c8],hk k (ho.ge k _ c8).2 (fun h=>?_),fun _=>rfl⟩;have:=(hb.qR k h).1;rw[c8]at this;cases this;exact yC rfl
 ·have hc:=hm.im k o y hy;rw[p_ (hk k (wb hc) (Mj k o y hy))];exact hc
 ·have:=ho.ge k o (uw Dh).1;exact⟨this.1,kg this.2 aO⟩
 ·obtain⟨_,i,h⟩:=uw hd;cases h
end
def gi(n:Nat):List Nat:=if n<10 then[48+n]else[48+n/10,48+n % 10]
def xo:Prim:=fun args m=>match args with
 |[.int .i64 n]=>if 0<=n/\n<100 then some (.str (gi n.toNat),m)else none
 |_=>none
def zi:Nat->List Nat->Option Nat
 |acc,[]=>some acc
 |acc,b::r=>if 48<=b/\b<=57 then zi (acc*10+(b-48)) r else none
def dn(b:Nat):Bool:=decide (48<=b)&&decide (b<=57)
def ux(te:TypeId):Prim:=fun args m=>match args with
 |[.str s]=>match s with
  |[]=>some (.aU [.int .i64 0,.iface te .cR],m)
  |b::r=>if r.length<=17/\dn b=true then(zi 0 (b::r)).map fun(n:Nat)=>(.aU [.int .i64 (n:Int),.gq],m)else none
 |_=>none
def BG:List AV->Option (List (List Nat))
 |[]=>some []
 | .str s::l=>(BG l).map (s::·)
 |_=>none
def lX(sep:List Nat):List (List Nat)->List Nat
 |[]=>[]
 |[x]=>x
 |x::l=>x++sep++lX sep l
def xp:Prim:=fun args m=>match args with
 |[.list _ [],.str _]=>some (.str [],m)
 |[.list _ (x::l),.str sep]=>match BG (x::l)with
  |some l=>if(lX sep l).length<=140737488355328/\l.length<=140737488355328 then some (.str (lX sep l),m)else none
  |none=>none
 |_=>none
def jx(c:Nat):List Nat->Nat->Option Nat
 |[],_=>none
 |b::r,i=>if b=c then some i else jx c r (i+1)
def xn:Prim:=fun args m=>match args with
 |[.str s,.int .u8 c]=>if 0<=c/\c<256 then some (.int .i64 (match jx c.toNat s 0 with
   |some i=>(i:Int)
   |none=> -1),m)else none
 |_=>none
def xm:Prim:=fun args m=>match args with
 |[.map id]=>match m.ε[id]? with
  |some (.map es)=>some (.map m.ε.length,m.push (.map es))
  |_=>none
 |_=>none
def xt(T e:TypeId):Prim:=fun args m=>match args with
 |[.κ id 0,.str s]=>match m.ε[id]? with
  |some (.ny T' e' t)=>if T'=T/\e'=e/\t.length+s.length<=140737488355328 then some (.aU [.int .i64 s.length,.gq],m.put id (.ny T e (t++s)) true)else none
  |_=>none
 |_=>none
def xq(T e:TypeId):Prim:=fun args m=>match args with
 |[.κ id 0]=>match m.ε[id]? with
  |some (.ny T' e' t)=>if T'=T/\e'=e then some (.str t,m.put id .dead true)else none
  |_=>none
 |_=>none
def uy(v:AV):Prim:=fun args m=>match args with
 |[]=>some (v,m)
 |_=>none
section
variable{P:Program}{gl:Nat->AV}{base:Nat}{LC:eS}{f:FuncId}{fn:Func}
theorem IQ(hf:P.funcs[f]?=some fn)(hb:fn.body.isNone=false)(hn:(fn.name== "runtime.NumGoroutine")=false){p:Prim}
  (h:∀(g:Gh) (own:OW) (mem:Mem) (w:World) (args:List AV) (r:AV) (m':Mem) (bI:Array Value),aZ g own LC mem w->bO base own w->mM g gl->PW (VR g bP) args bI.toList->p args mem=some (r,m')→
   m'=mem/\Calls P f bI w fun e w'=>∃x,e= .returned x/\VR g bP r x/\Below w.heap.size w w'):ml Fence.wide P base LC gl f p:=by
 intro n g own mem w args r m' bI hm ho eB cI hp;obtain⟨rfl,hc⟩:=h g own mem w args r m' bI hm ho eB cI hp;refine Fj hf hb hn (callsIn_wide.2 (hc.mono fun e w' he=>?_));obtain⟨x,rfl,hx,hB⟩:=he;exact⟨x,rfl,Y4 hm ho eB hB hx⟩
theorem Xp{g:Gh}{lb:LB}{k:IntKind}{n:Int}{x:Value}(h:VR g lb (.int k n) x):x= .int k n:=by cases h;rfl
theorem zK{g:Gh}{lb:LB}{s:List Nat}{x:Value}(h:VR g lb (.str s) x):∃b:ByteArray,x= .string b/\b.data.toList.map UInt8.toNat=s:=by cases h;exact⟨_,rfl,by assumption⟩
theorem Xo{g:Gh}{lb:LB}{s:List Nat}{l:List UInt8}(h:l.map UInt8.toNat=s):VR g lb (.str s) (.string ⟨l.toArray⟩):= .str _ _ _ (by simpa using h)
theorem ZL(i:Nat)(hi:i<100):(Lib.decDigits i).map UInt8.toNat=gi i:=by
 have:∀j:Fin 100,(Lib.decDigits j.val).map UInt8.toNat=gi j.val:=by decide+kernel
 exact this ⟨i,hi⟩
theorem afx(hf:P.funcs[f]?=some fn)(hb:fn.body.isNone=false)(hn:(fn.name== "runtime.NumGoroutine")=false)
  (h:∀(i:Nat),i<100->∀w,Calls P f #[.int .i64 i] w fun e w'=>e= .returned (.string ⟨(Lib.decDigits i).toArray⟩)/\w'=w):ml Fence.wide P base LC gl f xo:=by
 refine IQ hf hb hn fun g own mem w args r m' bI hm ho eB cI hp=>?_;unfold xo at hp;split at hp
 ·rename_i n;split at hp
  ·rename_i hr;simp only[a_,az]at hp;obtain⟨rfl,rfl⟩:=hp;obtain⟨x,rfl,hx⟩:=Eh cI;cases Xp hx;obtain⟨i,rfl⟩:=Int.eq_ofNat_of_zero_le hr.1;have hi:i<100:=by omega
   refine⟨rfl,(h i hi w).mono fun e w' he=>?_⟩;obtain⟨rfl,rfl⟩:=he;exact⟨_,rfl,Xo (by simpa using ZL i hi),Below.refl _ _⟩
  ·cases hp
 ·cases hp
theorem afj(l:List UInt8)(acc:Nat):zi acc (l.map UInt8.toNat)=Lib.decFrom acc l:=by
 induction l generalizing acc with
 |nil=>rfl
 |cons b r ih=>
  simp only[ax,zi,Lib.decFrom,Lib.digitVal]
  by_cases h:48<=b.toNat/\b.toNat<=57
  ·rw[if_pos h,if_pos h];exact ih _
  ·rw[if_neg h,if_neg h]
theorem afu(te:TypeId)(hf:P.funcs[f]?=some fn)(hb:fn.body.isNone=false)(hn:(fn.name== "runtime.NumGoroutine")=false)
  (h:∀(s:ByteArray) (n:Int),s.size<=18->Lib.atoi s.data.toList=some n->∀w,Calls P f #[.string s] w fun e w'=>e= .returned (.tuple #[.int .i64 n,.nilIface])/\Below w.heap.size w w')
  (h0:∀w g,mM g gl->(∀b o x,g.im b o=some x->w.cell? ⟨b,o,none⟩=some x)->Calls P f #[.string .empty] w fun e w'=>∃N,e= .returned (.tuple #[.int .i64 0,.iface te (.pointer (some ⟨N,0,none⟩))])/\Below w.heap.size w w'):
  ml Fence.wide P base LC gl f (ux te):=by
 refine IQ hf hb hn fun g own mem w args r m' bI hm ho eB cI hp=>?_;unfold ux at hp;split at hp
 ·rename_i s;split at hp
  ·simp only[a_,az]at hp;obtain⟨rfl,rfl⟩:=hp;obtain⟨x,rfl,hx⟩:=Eh cI;obtain⟨bs,rfl,fD⟩:=zK hx;have he:bs= .empty:=by obtain⟨⟨l⟩⟩:=bs;simp at fD;subst fD;rfl
   subst he;refine⟨rfl,(h0 w g eB hm.im).mono fun e w' he=>?_⟩;obtain⟨N,rfl,hB⟩:=he;refine⟨_,rfl,.aU _ _ _ rfl (fun i hi ae=>?_),hB⟩
   match i,hi with
   |0,_=>exact .int _ _ _
   |1,_=>exact .iface _ _ _ _ (.cR _ _ rfl)
  ·rename_i b r';split at hp
   ·rename_i hc;simp only[bA,az]at hp;obtain⟨n,gR,rfl,rfl⟩:=hp;obtain⟨x,rfl,hx⟩:=Eh cI;obtain⟨bs,rfl,fD⟩:=zK hx;have aO:bs.size=r'.length+1:=by have:=congrArg lK fD;simpa using this
    rw[<-fD,afj]at gR;have jr:Lib.atoi bs.data.toList=some (n:Int):=by
     cases hl:bs.data.toList with
     |nil=>rw[hl]at fD;cases fD
     |cons u r2=>
      rw[hl]at fD gR
      simp only[ax,List.cons.injEq]at fD;have hu:48<=u.toNat/\u.toNat<=57:=by have:=hc.2;simp only[dn,Bool.and_eq_true,decide_eq_true_eq]at this;rw[fD.1];exact this
      have e1:(u==45)=false:=by rw[beq_eq_false_iff_ne];rintro rfl;exact absurd hu.1 (by decide)
      have e2:(u==43)=false:=by rw[beq_eq_false_iff_ne];rintro rfl;exact absurd hu.1 (by decide)
      simp only[Lib.atoi,e1,e2,Bool.false_eq_true,if_false,Lib.decNat,List.isEmpty_cons,gR,p8]
    refine⟨rfl,(h bs n (by omega) jr w).mono fun e w' he=>?_⟩;obtain⟨rfl,hB⟩:=he;refine⟨_,rfl,.aU _ _ _ rfl (fun i hi ae=>?_),hB⟩
    match i,hi with
    |0,_=>exact .int _ _ _
    |1,_=>exact .gq _
   ·cases hp
 ·cases hp
theorem aca(c:Nat)(l:List Nat)(i:Nat):jx c l i=(jx c l 0).map (·+i):=by
 induction l generalizing i with
 |nil=>rfl
 |cons b r ih=>
  simp only[jx]
  split
  ·simp
  ·rw[ih (i+1),ih (0+1)];cases jx c r 0<;>simp[Nat.add_comm,Nat.add_left_comm]
theorem ab'(c:UInt8)(l:List UInt8):(match jx c.toNat (l.map UInt8.toNat) 0 with
  |some i=>(i:Int)
  |none=> -1)=Lib.indexByte l c:=by
 induction l with
 |nil=>rfl
 |cons b r ih=>
  simp only[ax,jx,Lib.indexByte]
  by_cases h:b=c
  ·subst h;simp
  ·have h1:¬b.toNat=c.toNat:=fun e=>h (UInt8.toNat_inj.1 e);have h2:(b==c)=false:=by simpa using h
   rw[if_neg h1,aca,h2];cases hx:jx c.toNat (r.map UInt8.toNat) 0 with
   |none=>rw[hx]at ih;simp only at ih;simp[<-ih]
   |some k=>
    rw[hx]at ih
    simp only at ih;have:((k:Int)== -1)=false:=by rw[beq_eq_false_iff_ne];omega
    simp[<-ih,this]
theorem afw(hf:P.funcs[f]?=some fn)(hb:fn.body.isNone=false)(hn:(fn.name== "runtime.NumGoroutine")=false)
  (h:∀(s:ByteArray) (c:Int) (w:World),Calls P f #[.string s,.int .u8 c] w fun e w'=>e= .returned (.int .i64 (Lib.indexByte s.data.toList c.toNat.toUInt8))/\w'=w):ml Fence.wide P base LC gl f xn:=by
 refine IQ hf hb hn fun g own mem w args r m' bI hm ho eB cI hp=>?_;unfold xn at hp;split at hp
 ·rename_i s c;split at hp
  ·rename_i hc;simp only[a_,az]at hp;obtain⟨rfl,rfl⟩:=hp;obtain⟨x,y,rfl,hx,hy⟩:=IT cI;obtain⟨bs,rfl,rfl⟩:=zK hx;cases Xp hy;refine⟨rfl,(h bs c w).mono fun e w' he=>?_⟩;obtain⟨rfl,rfl⟩:=he;refine⟨_,rfl,?_,Below.refl _ _⟩;have my:c.toNat=(c.toNat.toUInt8).toNat:=by rw[Nat.toUInt8_eq,UInt8.toNat_ofNat'];omega
   have:=ab' c.toNat.toUInt8 bs.data.toList;rw[<-my]at this;rw[this];exact .int _ _ _
  ·cases hp
 ·cases hp
theorem ai2{l:List AV}{ss:List (List Nat)}(h:BG l=some ss):l=ss.map .str:=by
 induction l generalizing ss with
 |nil=>cases h;rfl
 |cons a l ih=>
  cases a<;>simp only[BG]at h<;>first|(cases h;done)|skip
  simp only[bA]at h;obtain⟨t,ht,rfl⟩:=h;simp[ih ht]
theorem acp(sep:List UInt8)(l:List (List UInt8)):lX (sep.map UInt8.toNat) (l.map (·.map UInt8.toNat))=(Lib.join l sep).map UInt8.toNat:=by
 induction l with
 |nil=>rfl
 |cons x l ih=>
  cases l with
  |nil=>simp[lX,Lib.join_one]
  |cons y l=>
   rw[Lib.join_cons]
   rw[Lib.join_cons]at ih;simp only[ax,lX]at ih⊢;rw[ih];simp[Lib.joinTail]
theorem afy(hf:P.funcs[f]?=some fn)(hb:fn.body.isNone=false)(hn:(fn.name== "runtime.NumGoroutine")=false)
  (h0:∀(a:Option Addr) (c:Nat) (sep:ByteArray) (w:World),Calls P f #[.slice a 0 c,.string sep] w fun e w'=>e= .returned (.string ⟨#[]⟩)/\w'=w)
  (h:∀(bk o c:Nat) (xs:List ByteArray) (sep:ByteArray) (w:World),(∀(j:Nat) x,xs[j]?=some x->w.cell? ⟨bk,o+j,none⟩=some (.string x))->bk<w.heap.size->xs.length<=140737488355328->xs.length<=c→
   (Lib.join (xs.map (·.data.toList)) sep.data.toList).length<=140737488355328→
   Calls P f #[.slice (some ⟨bk,o,none⟩) xs.length c,.string sep] w fun e w'=>e= .returned (.string ⟨(Lib.join (xs.map (·.data.toList)) sep.data.toList).toArray⟩)/\Below w.heap.size w w'):ml Fence.wide P base LC gl f xp:=by
 refine IQ hf hb hn fun g own mem w args r m' bI hm ho eB cI hp=>?_;unfold xp at hp;split at hp
 ·rename_i c sep;simp only[a_,az]at hp;obtain⟨rfl,rfl⟩:=hp;obtain⟨xv,yv,rfl,hx,hy⟩:=IT cI;obtain⟨sb,rfl,rfl⟩:=zK hy;obtain⟨a,cap,rfl⟩:∃a cap,xv= .slice a 0 cap:=by
   cases hx with
   |iM=>exact⟨_,_,rfl⟩
   |h_ _ _ a cap=>exact⟨_,_,rfl⟩
   |list _ _ _ b o sz n cap xs hn=>simp at hn;subst hn;exact⟨_,_,rfl⟩
  refine⟨rfl,(h0 a cap sb w).mono fun e w' he=>?_⟩;obtain⟨rfl,rfl⟩:=he;exact⟨_,rfl,.str _ _ _ rfl,⟨rfl,rfl,rfl,b_ _,fun _ _=>rfl⟩⟩
 ·rename_i c x l sep;split at hp
  ·rename_i ss vp;split at hp
   ·rename_i hlen;simp only[a_,az]at hp;obtain⟨rfl,rfl⟩:=hp;have jW:=ai2 vp;obtain⟨xv,yv,rfl,hx,hy⟩:=IT cI;obtain⟨sb,rfl,rfl⟩:=zK hy;rw[jW]at hx;have φ:ss≠[]:=by rintro rfl;cases jW
    obtain⟨bk,o,cap,vs,rfl,dN,-,dH,cx⟩:=hx.flat (sz:=1) (fun e he=>by obtain⟨s,_,rfl⟩:=fb.1 he;rfl) (by simpa using φ);have HR:vs.length=ss.length:=by have:=dH.1;simpa using this
    have qv:∀j,j<ss.length->∃bs:ByteArray,vs[j]?=some (.string bs)/\bs.data.toList.map UInt8.toNat=ss.getD j []:=by
     intro j hj;have e0:(ss.map AV.str)[j]'(by simpa using hj)= .str ss[j]:=by simp
     have hv:=dH.2.2.2 j (by simpa using hj) 0 (by rw[e0];simp[AV.cells]) (by omega);simp only[e0,AV.cells,kz,Nat.mul_one,Nat.add_zero]at hv;obtain⟨bs,h1,h2⟩:=zK hv;refine⟨bs,?_,?_⟩
     ·rw[dp (by omega),h1]
     ·rw[h2,nr,dp hj];rfl
    let xs:List ByteArray:=(qW ss.length).map fun j=>match(vs[j]?:Option Value)with
     |some (Value.string b)=>b
     |_=> .empty
    have rN:xs.length=ss.length:=by simp[xs]
    have Nd:∀j (hj:j<ss.length),∃bs:ByteArray,xs[j]?=some bs/\vs[j]?=some (.string bs)/\bs.data.toList.map UInt8.toNat=ss[j]:=by intro j hj;obtain⟨bs,h1,h2⟩:=qv j hj;refine⟨bs,?_,h1,by rw[h2,nr,dp hj];rfl⟩;simp[xs,hj,h1]
    have yG:(xs.map (·.data.toList)).map (·.map UInt8.toNat)=ss:=by
     apply List.ext_getElem (by simp[rN]);intro j h1 h2;obtain⟨bs,k1,k2,k3⟩:=Nd j h2;have hjx:j<xs.length:=by omega
     rw[dp hjx]at k1;cases k1;simpa using k3
    have hj:=acp sb.data.toList (xs.map (·.data.toList));rw[yG]at hj;rw[hj]at hlen⊢;simp only[cz]at hlen;have hle:ss.length<=cap:=by simpa using dN
    have mU:∀(j:Nat) x,xs[j]?=some x->w.cell? ⟨bk,o+j,none⟩=some (.string x):=by
     intro j y lV;have rD:j<ss.length:=by rw[<-rN];exact(fI.1 lV).1
     obtain⟨bs,k1,k2,-⟩:=Nd j rD;rw[k1]at lV;cases lV;exact hm.im _ _ _ (cx j _ k2)
    have h0:0<ss.length:=List.length_pos_iff.2 φ;have LX:bk<w.heap.size:=by obtain⟨bs,k1,-,-⟩:=Nd 0 h0;exact wb (mU 0 bs k1)
    have hc:=h bk o cap xs sb w mU LX (by omega) (by omega) hlen.1;rw[rN]at hc;rw[cz];refine⟨rfl,hc.mono fun e w' he=>?_⟩;obtain⟨rfl,hB⟩:=he;exact⟨_,rfl,Xo rfl,hB⟩
   ·cases hp
  ·cases hp
 ·cases hp
theorem Zl{g:Gh}{own:OW}{mem:Mem}{w:World}(hm:aZ g own LC mem w)(ho:bO base own w)(eB:mM g gl){id:Nat}{es:List (AV×AV)}(hb:mem.ε[id]?=some (.map es)){b:Nat}(jt:g.mb id=some b):
  ∃a clock,w.heap[b]?=some (.map a clock)/\lJ base LC gl g own w (.map mem.ε.length) (mem.push (.map es)) (.map (some w.heap.size)) (w.alloc (.map a clock)):=by
 obtain⟨b',h1,h2,h3,a,clock,h4,h5,h6,h7⟩:=hm.blk id _ hb;rw[jt]at h1;cases h1;refine⟨a,clock,h4,?_⟩;have lz:=hm.eo;have rH:=ho.eo;have cx:∀o,g.im w.heap.size o=none:=w9 hm;let g':Gh:= {g with mb:=fun id=>if id=mem.ε.length then some w.heap.size else g.mb id};have c_:g.sub g':=⟨fun _ _ _ h=>h,fun id b hb=>by
  have:=hm.jq id b hb
  simp only[g'];rw[if_neg (by omega)];exact hb,fun _ _ _ h=>h⟩
 have Ω:=ep.alloc g (eo own) w (.map a clock) (some (.m mem.ε.length));refine⟨g',_,⟨c_,Ω.size,Ω.os,Ω.tape,Ω.output,Ω.ba,Ω.jD,Ω.im⟩,?_,.map _ _ _ (by simp[g']),rH.alloc _ _,fun b d hb=>?_,eB.mono c_⟩
 ·refine lz.push (lz.alloc rH _ _) _ _ (fun id b hb=>?_) (fun id hid=>?_) ?_
  ·split at hb
   ·exact .inr (by assumption)
   ·exact .inl hb
  ·exact if_neg (by omega)
  ·exact⟨w.heap.size,by simp,by simp[gL],cx,a,clock,qi w _,h5,fun i hi ae=>⟨(h6 i hi ae).1.sub c_,(h6 i hi ae).2.sub c_⟩,h7⟩
 ·unfold gL at hb;split at hb
  ·cases hb
  ·obtain⟨_,i,h⟩:=uw hb;cases h
theorem afv(hf:P.funcs[f]?=some fn)(hb:fn.body.isNone=false)(hn:(fn.name== "runtime.NumGoroutine")=false)
  (h:∀(b:Nat) (es:Array MapEntry) (clock:Nat) (w:World),w.heap[b]?=some (.map es clock)→
   Calls P f #[.map (some b)] w fun e w'=>e= .returned (.map (some w.heap.size))/\w'=w.alloc (.map es clock)):ml Fence.wide P base LC gl f xm:=by
 intro n g own mem w args r m' bI hm ho eB cI hp;unfold xm at hp;split at hp
 ·rename_i id;split at hp
  ·rename_i es gG;simp only[a_,az]at hp;obtain⟨rfl,rfl⟩:=hp;obtain⟨x,rfl,hx⟩:=Eh cI;cases hx with
   |map _ _ b jt=>
    obtain⟨a,clock,h1,h2⟩:=Zl hm ho eB gG jt
    refine Fj hf hb hn (callsIn_wide.2 ((h b a clock w h1).mono fun e w' he=>?_));obtain⟨rfl,rfl⟩:=he;exact⟨_,rfl,h2⟩
  ·cases hp
 ·cases hp
theorem ago:∀args m r m',xm args m=some (r,m')->KM m m':=by
 intro args m r m' hp;unfold xm at hp;split at hp
 ·split at hp
  ·simp only[a_,az]at hp;obtain⟨rfl,rfl⟩:=hp;exact KM.push _ _
  ·cases hp
 ·cases hp
def Pj(w w':World)(b:Nat)(r:Option Nat):Prop:=
 w.heap.size<=w'.heap.size/\w'.os=w.os/\w'.tape=w.tape/\w'.output=w.output/\∀k,k<w.heap.size->k≠b->r≠some k->w'.heap[k]?=w.heap[k]?
theorem afA{T e:TypeId}(hf:P.funcs[f]?=some fn)(hb:fn.body.isNone=false)(hn:(fn.name== "runtime.NumGoroutine")=false)
  (h:∀(b:Nat) (s:ByteArray) (p v:Value) (r:Option Nat) (q:List Nat) (w:World),w.heap[b]?=some (.cells #[p,v] T (0,0))->(p= .pointer none\/p= .pointer (some ⟨b,0,none⟩))->pn w e q v r->r≠some b→
   q.length+s.size<=140737488355328→
   Calls P f #[.pointer (some ⟨b,0,none⟩),.string s] w fun en w'=>en= .returned (.tuple #[.int .i64 s.size,.nilIface])/\Pj w w' b r/\∃p' v' r',w'.heap[b]?=some (.cells #[p',v'] T (0,0))∧
    (p'= .pointer none\/p'= .pointer (some ⟨b,0,none⟩))/\pn w' e (q++s.data.toList.map UInt8.toNat) v' r'/\(r'=r\/∃k,r'=some k/\w.heap.size<=k)):
  ml Fence.wide P base LC gl f (xt T e):=by
 intro n g own mem w args r m' bI hm ho eB cI hp;unfold xt at hp;split at hp
 ·rename_i id s;split at hp
  ·rename_i T' e' t gG;split at hp
   ·rename_i hc;obtain⟨rfl,rfl,hlen⟩:=hc;simp only[a_,az]at hp;obtain⟨rfl,rfl⟩:=hp;obtain⟨x,y,rfl,hx,hy⟩:=IT cI;obtain⟨bs,rfl,rfl⟩:=zK hy;have ek:(bs.data.toList.map UInt8.toNat).length=bs.size:=by rw[cz,vS];rfl
    cases hx with
    |κ _ _ _ b jt=>
     obtain⟨b',p,v,Et,pD⟩:=PX (hm.blk id _ gG)
     have:=pD.mb;rw[jt]at this;cases this;have wV:Et≠some b:=fun he=>(pD.qR b he).2.1 rfl;refine Fj hf hb hn (callsIn_wide.2 ((h b bs p v Et t w pD.heap pD.ptr pD.row wV (by omega)).mono fun en w' he=>?_));obtain⟨rfl,⟨k1,k2,k3,k4,k5⟩,p',v',r',k6,k7,k8,k9⟩:=he;refine⟨_,rfl,Yr hm ho eB (fI.1 gG).1 pD k1 k2 k3 k4 k5 k6 k7 (fun z hz=>?_) k8 k9 (.aU _ _ _ rfl fun i hi ae=>?_)⟩
     ·rcases List.mem_append.1 hz with hz|hz
      ·exact pD.bytes z hz
      ·obtain⟨u,_,rfl⟩:=fb.1 hz;exact u.toNat_lt
     ·rw[ek]at hi
      match i,hi with
      |0,_=>simp only[ek];exact .int _ _ _
      |1,_=>exact .gq _
   ·cases hp
  ·cases hp
 ·cases hp
theorem afz{T e:TypeId}(hf:P.funcs[f]?=some fn)(hb:fn.body.isNone=false)(hn:(fn.name== "runtime.NumGoroutine")=false)
  (h:∀(b:Nat) (p v:Value) (r:Option Nat) (q:List Nat) (w:World),w.heap[b]?=some (.cells #[p,v] T (0,0))->pn w e q v r->r≠some b->(∀x∈q,x<256)→
   Calls P f #[.pointer (some ⟨b,0,none⟩)] w fun en w'=>∃bs:ByteArray,en= .returned (.string bs)/\bs.data.toList.map UInt8.toNat=q∧
    w.heap.size<=w'.heap.size/\w'.os=w.os/\w'.tape=w.tape/\w'.output=w.output/\∀k,k<w.heap.size->r≠some k->w'.heap[k]?=w.heap[k]?):
  ml Fence.wide P base LC gl f (xq T e):=by
 intro n g own mem w args r m' bI hm ho eB cI hp;unfold xq at hp;split at hp
 ·rename_i id;split at hp
  ·rename_i T' e' t gG;split at hp
   ·rename_i hc;obtain⟨rfl,rfl⟩:=hc;simp only[a_,az]at hp;obtain⟨rfl,rfl⟩:=hp;obtain⟨x,rfl,hx⟩:=Eh cI;cases hx with
    |κ _ _ _ b jt=>
     obtain⟨b',p,v,Et,pD⟩:=PX (hm.blk id _ gG)
     have:=pD.mb;rw[jt]at this;cases this;have wV:Et≠some b:=fun he=>(pD.qR b he).2.1 rfl;refine Fj hf hb hn (callsIn_wide.2 ((h b p v Et t w pD.heap pD.row wV pD.bytes).mono fun en w' he=>?_));obtain⟨bs,rfl,fD,k1,k2,k3,k4,k5⟩:=he;exact⟨_,rfl,Yo hm ho eB pD k1 k2 k3 k4 k5 (.str _ _ _ fD)⟩
   ·cases hp
  ·cases hp
 ·cases hp
theorem agt(T e:TypeId):∀args m r m',xt T e args m=some (r,m')->KM m m':=by
 intro args m r m' hp;unfold xt at hp;split at hp
 ·split at hp
  ·split at hp
   ·simp only[a_,az]at hp;obtain⟨rfl,rfl⟩:=hp;exact KM.set (fun _ h=>by cases h) _
   ·cases hp
  ·cases hp
 ·cases hp
theorem ags(T e:TypeId):∀args m r m',xq T e args m=some (r,m')->KM m m':=by
 intro args m r m' hp;unfold xq at hp;split at hp
 ·split at hp
  ·split at hp
   ·simp only[a_,az]at hp;obtain⟨rfl,rfl⟩:=hp;exact KM.set (fun _ h=>by cases h) _
   ·cases hp
  ·cases hp
 ·cases hp
theorem Oi{ay:cg}{v:AV}(iJ:np Fence.wide P base LC gl ay)(hcv:∀mem,ay (.fn (.func f) [] []) [] mem=some (v,mem)):ml Fence.wide P base LC gl f (uy v):=by
 intro n g own mem w args r m' bI hm ho eB cI hp;unfold uy at hp;split at hp
 ·simp only[a_,az]at hp;obtain⟨rfl,rfl⟩:=hp;have hv:bI= #[]:=by have h0:=cI.1;simp at h0;exact Array.size_eq_zero_iff.1 (by omega)
  subst hv;have nK:VR g bP (.fn (.func f) [] []) (.func (.func f) #[] #[]):= .fn _ _ _ _ _ _ _ rfl rfl rfl (fun i hi=>by simp at hi) (fun i hi=>by simp at hi);have:=iJ n g bP own mem w _ _ _ _ _ #[] hm ho eB nK cI (hcv mem);have dT:(do let d<-Deferred.ofValue (.func (.func f) #[] #[]) #[];invoke d.target d.args:Sem Next).run P w=(callFunc f #[]).run P w:=by simp only[Deferred.ofValue,Sem.run_bind,Sem.run_pure,Result.andThen_ok,invoke];rfl
  unfold tB at this;rw[dT]at this;exact this
 ·cases hp
end
end Go.Δ
