import Derived.Test.YtiigojkfojnedaaGreatDoorQX
import Derived.Lib.AppendStr
import Derived.Lib.Atoi
import Derived.Lib.ItoaNum
import Derived.Lib.Join
import Derived.Lib.Bytealg
set_option linter.unusedVariables false
set_option linter.unusedSimpArgs false
set_option maxRecDepth 100000
set_option maxHeartbeats 8000000
open Nat renaming le_trans->xb,lt_of_lt_of_le->rF,le_max_left->w_,le_max_right->xa,lt_or_ge->bP,le_refl->bF,zero_add->jz
open Option renaming map_eq_some_iff->bH,map_some->qv,bind_eq_some_iff->AS
open List renaming nil_append->cI,getElem_cons_zero->me,eq_nil_of_length_eq_zero->ma,append_assoc->cj,getElem?_eq_none->gZ,getElem?_append_left->dX,all_cons->ah2,all_nil->ah3,length_nil->lK,map_cons->ay,getElem?_set_ne->Dw,map_map->c6,map_congr_left->dt,getElem?_eq_getElem->dr,range->rC,mem_map->jy,getD_eq_getElem?_getD->kJ,getElem_map->iz,getElem_range->Ir,length_map->dd,length->nr,length_append->fu,length_take->mf,length_set->fj,getElem?_set->vq,getElem?_eq_some_iff->kg
open Bool renaming and_self->vm
open Array renaming length_toList->vk,getElem?_eq_some_iff->yO
open Go.IntKind renaming u8->ah4
open Option.some renaming injEq->aZ
open Prod.mk renaming injEq->aN
namespace Go.ah
open Go.RowKit (Below)
section
variable{F:Fence}{n:Nat}{P:Program}{gl:Nat->AV}{base:Nat}{LC:eN}{g:Gh}{own:OW}{mem:Mem}{w w':World}{r:AV}{x:Value}
theorem V1(hm:a8 g own LC mem w)(ho:bV base own w)(di:mJ g gl)(hb:Below w.heap.size w w')(hv:VR g bS r x):nS base LC gl g own w r mem x w':=by
 obtain⟨h1,h2,h3,h4,h5⟩:=hb;refine⟨g,eh own,⟨g.eG,h4,h1,h2,h3,fun b hb _=>h5 b hb,fun _ _ h=>by simpa[eh]using h,fun _ _ _ _=>rfl⟩,?_,hv,⟨fun b o hb=>?_,xb ho.base h4⟩,fun b d hb=>?_,di⟩
 ·refine hm.bw g.eG (fun _ h=>h) (fun _ _ h=>h) (fun id b hb=>⟨by rw[u3 hb,hb],h5 b (ho.ge b _ hb).2,fun _=>rfl⟩) (fun b o y hy=>?_);have hc:=hm.im b o y hy;rw[ph (h5 b (vB hc))];exact hc
 ·have:=ho.ge b o (tV hb).1;exact⟨this.1,rF this.2 h4⟩
 ·obtain⟨_,id,h⟩:=tV hb;cases h
theorem D3{f:FuncId}{fn:Func}{bR:Array Value}(hf:P.funcs[f]?=some fn)(hb:fn.body.isNone=false)(hn:(fn.name== "runtime.NumGoroutine")=false){R:Value->World->Prop}
  (h:CallsIn F n P f bR w fun e w'=>∃x,e= .returned x/\R x w'):M_ F n P ((callFunc f bR).run P w) w R:=
 .inl ⟨f,bR,HY hf hb hn,h⟩
theorem C5{R:AV->Value->Prop}{a:AV}{bR:Array Value}(h:PW R [a] bR.toList):∃x,bR= #[x]/\R a x:=by
 obtain⟨l⟩:=bR
 match l,h with
 |[x],h=>exact⟨x,rfl,h.2 0 (by simp) (by simp)⟩
 |[],h=>exact absurd h.1 (by simp)
 |_::_::_,h=>exact absurd h.1 (by simp)
theorem HO{R:AV->Value->Prop}{a b:AV}{bR:Array Value}(h:PW R [a,b] bR.toList):∃x y,bR= #[x,y]/\R a x/\R b y:=by
 obtain⟨l⟩:=bR
 match l,h with
 |[x,y],h=>exact⟨x,y,rfl,h.2 0 (by simp) (by simp),h.2 1 (by simp) (by simp)⟩
 |[],h=>exact absurd h.1 (by simp)
 |[_],h=>exact absurd h.1 (by simp)
 |_::_::_::_,h=>exact absurd h.1 (by simp)
end
open Classical
noncomputable def aU(C:iM):cx:=fun fv args mem=>
 if h:∃r k,cv C k fv args mem=some r then some h.choose else none
noncomputable def fI:oC:=fun b s=>if h:∃r n,fD n b s=some r then some h.choose else none
theorem qD{C:iM}{fv args mem r}:aU C fv args mem=some r↔∃k,cv C k fv args mem=some r:=by
 unfold aU;split
 ·rename_i h;obtain⟨k,hk⟩:=h.choose_spec;constructor
  ·intro he;cases he;exact⟨k,hk⟩
  ·rintro⟨k',da⟩
   have h1:=xn C (w_ k k') _ _ _ _ hk;have h2:=xn C (xa k k') _ _ _ _ da;rw[h1]at h2;exact h2
 ·rename_i h;constructor
  ·intro he;cases he
  ·rintro⟨k,hk⟩;exact absurd ⟨r,k,hk⟩ h
theorem Nr{b:St->Option (Ex×St)}{n m:Nat}(h:n<=m){s r}(hr:fD n b s=some r):fD m b s=some r:=
 DI n m h b b (fun _ _ h=>h) s r hr
theorem Hw{b s r}:fI b s=some r↔∃n,fD n b s=some r:=by
 unfold fI;split
 ·rename_i h;obtain⟨k,hk⟩:=h.choose_spec;constructor
  ·intro he;cases he;exact⟨k,hk⟩
  ·rintro⟨k',da⟩
   have h1:=Nr (w_ k k') hk;have h2:=Nr (xa k k') da;rw[h1]at h2;exact h2
 ·rename_i h;constructor
  ·intro he;cases he
  ·rintro⟨k,hk⟩;exact absurd ⟨r,k,hk⟩ h
theorem A2(n:Nat)(b:St->Option (Ex×St))(s:St):fD (n+1) b s=match b s with
  |some (.normal,s')=>fD n b s'
  |r=>r:=rfl
theorem adj{b:St->Option (Ex×St)}{s s':St}(h:b s=some (.normal,s')):fI b s=fI b s':=by
 apply Option.ext;intro r;rw[Hw,Hw];constructor
 ·rintro⟨n,hn⟩
  cases n with
  |zero=>simp[fD]at hn
  |succ n=>rw[A2,h]at hn;exact⟨n,hn⟩
 ·rintro⟨n,hn⟩
  exact⟨n+1,by rw[A2,h];exact hn⟩
theorem Sx{b:St->Option (Ex×St)}{s:St}{r:Ex×St}(h:b s=some r)(hr:r.1≠ .normal):fI b s=some r:=by rw[Hw];refine⟨1,?_⟩;rw[A2,h];obtain⟨e,s'⟩:=r;cases e<;>simp_all
section
variable{C:iM}{gl:Nat->AV}
theorem U5{ev lk mem dst o r}(h:aC ev lk mem (aU C) dst o=some r):∃k,aC ev lk mem (cv C k) dst o=some r:=by
 cases o
 case call f args=>
  simp only[aC,bH]at h⊢
  obtain⟨x,hx,hr⟩:=h;obtain⟨k,hk⟩:=qD.1 hx;exact⟨k,x,hk,hr⟩
 all_goals exact⟨0,h⟩
theorem NA{o s r}(h:dP gl (aU C) o s=some r):∃k,dP gl (cv C k) o s=some r:=by
 unfold dP at h⊢;split at h
 ·cases h
 ·split at h
  ·rename_i he;obtain⟨k,hk⟩:=U5 he;exact⟨k,by rw[hk];exact h⟩
  ·cases h
 ·exact⟨0,h⟩
theorem U7{l s r}(h:ed gl (aU C) l s=some r):∃k,ed gl (cv C k) l s=some r:=by
 induction l generalizing s with
 |nil=>exact⟨0,h⟩
 |cons o l ih=>
  simp only[ed]at h⊢
  split at h
  ·rename_i s' he;obtain⟨k1,h1⟩:=NA he;obtain⟨k2,h2⟩:=ih h;refine⟨max k1 k2,?_⟩;rw[DK (xn C (w_ _ _)) h1];exact Nt (xn C (xa _ _)) h2
  ·cases h
theorem U9{l s r}(h:dF gl (aU C) l s=some r):∃k,dF gl (cv C k) l s=some r:=by
 induction l generalizing s r with
 |nil=>exact⟨0,h⟩
 |cons o l ih=>
  simp only[dF]at h⊢
  split at h
  ·rename_i s' he;simp only[bH]at h;obtain⟨x,hx,rfl⟩:=h;obtain⟨k1,h1⟩:=NA he;obtain⟨k2,h2⟩:=ih hx;refine⟨max k1 k2,?_⟩;rw[DK (xn C (w_ _ _)) h1];simp only[Nz (xn C (xa _ _)) h2,qv]
  ·cases h
theorem UO{l cf af s r}(h:ek gl (aU C) l cf af s=some r):∃k,ek gl (cv C k) l cf af s=some r:=by
 unfold ek at h⊢;split at h
 ·rename_i tr he;obtain⟨k,hk⟩:=U9 he;exact⟨k,by rw[hk];exact h⟩
 ·cases h
theorem rR{k k':Nat}(hk:k<=k'){a:AC}{s r}(h:exec gl (cv C k) (fD k) a s=some r):exec gl (cv C k') (fD k') a s=some r:=
 Js (xn C hk) (DI _ _ hk) a s r h
theorem By(a:AC):∀s r,exec gl (aU C) fI a s=some r->∃k,exec gl (cv C k) (fD k) a s=some r:=by
 induction a with
 |skip=>intro s r h;exact⟨0,h⟩
 |ops l=>
  intro s r h
  simp only[exec,bH]at h⊢;obtain⟨x,hx,hr⟩:=h;obtain⟨k,hk⟩:=U7 hx;exact⟨k,x,hk,hr⟩
 |draw l cf af=>
  intro s r h
  simp only[exec,bH]at h⊢;obtain⟨x,hx,hr⟩:=h;obtain⟨k,hk⟩:=UO hx;exact⟨k,x,hk,hr⟩
 |seq a b fV mF=>
  intro s r h
  simp only[exec]at h;split at h
  ·rename_i s' he;obtain⟨k1,h1⟩:=fV _ _ he;obtain⟨k2,h2⟩:=mF _ _ h;exact⟨max k1 k2,by simp only[exec,rR (w_ k1 k2) h1];exact rR (xa k1 k2) h2⟩
  ·rename_i ak;obtain⟨k1,h1⟩:=fV _ _ h;refine⟨k1,?_⟩;simp only[exec,h1];split
   ·rename_i he;cases he;exact absurd h (ak _)
   ·rfl
 |cond x a b fV mF=>
  intro s r h
  simp only[exec]at h⊢;split at h
  ·split at h
   ·rename_i he ht;obtain⟨k,hk⟩:=fV _ _ h;exact⟨k,by simp only[ht,if_true];exact hk⟩
   ·rename_i he ht;obtain⟨k,hk⟩:=mF _ _ h;exact⟨k,by simp only[ht];exact hk⟩
  ·cases h
 |block id a fV=>
  intro s r h
  simp only[exec]at h⊢;split at h
  ·rename_i he;obtain⟨k,hk⟩:=fV _ _ he;exact⟨k,by rw[hk];exact h⟩
  ·rename_i ak;obtain⟨k,hk⟩:=fV _ _ h;refine⟨k,?_⟩;rw[hk];split
   ·rename_i he;cases he;exact absurd h (ak _ _)
   ·rfl
 |loop a fV=>
  intro s r h
  simp only[exec]at h⊢;obtain⟨n,hn⟩:=Hw.1 h;have:∀n s,fD n (exec gl (aU C) fI a) s=some r->∃k,fD k (exec gl (cv C k) (fD k) a) s=some r:=by
   intro n;induction n with
   |zero=>intro s h;simp[fD]at h
   |succ n ih=>
    intro s h
    simp only[fD]at h;split at h
    ·rename_i s' he;obtain⟨k1,h1⟩:=fV _ _ he;obtain⟨k2,h2⟩:=ih _ h;refine⟨max k1 k2+1,?_⟩;rw[A2,rR (show k1<=max k1 k2+1 by omega) h1];exact DI _ _ (show k2<=max k1 k2 by omega) _ _ (fun s r h=>rR (show k2<=max k1 k2+1 by omega) h) _ _ h2
    ·rename_i ak;obtain⟨k1,h1⟩:=fV _ _ h;refine⟨k1+1,?_⟩;rw[A2,rR (show k1<=k1+1 by omega) h1];split
     ·rename_i he;cases he;exact absurd h (ak _)
     ·rfl
  exact this n s hn
 |exit id=>intro s r h;exact⟨0,h⟩
 |ret=>intro s r h;exact⟨0,h⟩
 |wP f ps fL body _ _=>
  intro s r h
  simp only[exec]at h⊢;split at h
  ·rename_i he;obtain⟨fv,h1,h2⟩:=AS.1 he;obtain⟨k,hk⟩:=qD.1 h2;refine⟨k,?_⟩;rw[h1];simp only[Option.bind_some,hk];exact h
  ·cases h
 |C3 ds=>intro s r h;exact⟨0,h⟩
 |bad=>intro s r h;exact⟨0,h⟩
theorem afp{l args mem r}(h:round (exec gl (aU C) fI) l args mem=some r):∃k,round (exec gl (cv C k) (fD k)) l args mem=some r:=by
 unfold round at h⊢;split at h
 ·split at h
  ·rename_i hlen;simp only[hlen,if_true];split at h
   ·rename_i he;obtain⟨k1,h1⟩:=By _ _ _ he;split at h
    ·rename_i oc;split at h
     ·rename_i gM;obtain⟨k2,h2⟩:=By _ _ _ gM;exact⟨max k1 k2,by simp only[rR (w_ k1 k2) h1,oc,if_true,rR (xa k1 k2) h2];exact h⟩
     ·rename_i gM;obtain⟨k2,h2⟩:=By _ _ _ gM;exact⟨max k1 k2,by simp only[rR (w_ k1 k2) h1,oc,if_true,rR (xa k1 k2) h2];exact h⟩
     ·rename_i gM;obtain⟨k2,h2⟩:=By _ _ _ gM;exact⟨max k1 k2,by simp only[rR (w_ k1 k2) h1,oc,if_true,rR (xa k1 k2) h2];exact h⟩
     ·cases h
    ·cases h
   ·cases h
  ·cases h
 ·cases h
theorem ur{fv args mem r}(h:body C (aU C) fI fv args mem=some r):aU C fv args mem=some r:=by
 apply qD.2;unfold body at h;split at h
 ·split at h
  ·rename_i p hp;exact⟨1,by simp only[cv,body,hp];exact h⟩
  ·rename_i hp;split at h
   ·rename_i g hg;generalize he:exec C.gl (aU C) fI _ _=x at h;cases x with
    |none=>simp[fin]at h
    |some x=>
     obtain⟨k,hk⟩:=By _ _ _ he
     exact⟨k+1,by simp only[cv,body,hp,hg,hk];exact h⟩
   ·cases h
 ·obtain⟨k,hk⟩:=afp h;exact⟨k+1,by simp only[cv,body];exact hk⟩
 ·cases h
end
theorem adk{b:St->Option (Ex×St)}{I:Nat->St->Prop}{iO:Ex×St->Prop}(n:Nat)
  (step:∀i s,i<=n->I i s->(∃s',b s=some (.normal,s')/\i<n/\I (i+1) s')\/(∃r,b s=some r/\r.1≠ .normal/\iO r)):
  ∀k i s,i+k=n->I i s->∃r,fI b s=some r/\iO r:=by
 intro k;induction k with
 |zero=>
  intro i s hi hI
  rcases step i s (by omega) hI with⟨s',_,h,_⟩|⟨r,h1,h2,h3⟩
  ·omega
  ·exact⟨r,Sx h1 h2,h3⟩
 |succ k ih=>
  intro i s hi hI
  rcases step i s (by omega) hI with⟨s',h1,h,h2⟩|⟨r,h1,h2,h3⟩
  ·obtain⟨r,h3,h4⟩:=ih (i+1) s' (by omega) h2;exact⟨r,by rw[adj h1];exact h3,h4⟩
  ·exact⟨r,Sx h1 h2,h3⟩
theorem adh{gl:Nat->AV}{c:cx}{a:AC}{I:Nat->St->Prop}{iO:Ex×St->Prop}(n:Nat){s:St}(h0:I 0 s)
  (step:∀i s,i<=n->I i s->(∃s',exec gl c fI a s=some (.normal,s')/\i<n/\I (i+1) s')\/(∃r,exec gl c fI a s=some r/\r.1≠ .normal/\iO r)):
  ∃r,exec gl c fI (.loop a) s=some r/\iO r:=by
 simp only[exec];exact adk n step n 0 s (by omega) h0
def μ(gl:Nat->AV)(c:cx)(a:AC)(s:St)(Q:Ex×St->Prop):Prop:=∃r,exec gl c fI a s=some r/\Q r
theorem μ.seq{gl:Nat->AV}{c:cx}{a b:AC}{s:St}{M:St->Prop}{Q:Ex×St->Prop}(h:μ gl c a s fun r=>(r.1= .normal/\M r.2)\/(r.1≠ .normal/\Q r))(k:∀s',M s'->μ gl c b s' Q):μ gl c (.seq a b) s Q:=by
 obtain⟨⟨e,s'⟩,h1,h2⟩:=h;rcases h2 with⟨rfl,h2⟩|⟨h2,h3⟩
 ·obtain⟨r,h3,h4⟩:=k s' h2;exact⟨r,by simp only[exec,h1];exact h3,h4⟩
 ·refine⟨(e,s'),?_,h3⟩;simp only[exec,h1];cases e<;>simp_all
theorem μ.seq'{gl:Nat->AV}{c:cx}{a b:AC}{s:St}{M:St->Prop}{Q:Ex×St->Prop}(h:∃s',exec gl c fI a s=some (.normal,s')/\M s')(k:∀s',M s'->μ gl c b s' Q):μ gl c (.seq a b) s Q:=by obtain⟨s',h1,h2⟩:=h;exact μ.seq ⟨_,h1,.inl ⟨rfl,h2⟩⟩ k
abbrev AV.n(x:Int):AV:= .int .i64 x
abbrev St.e(s:St)(n:Nat):AV:=ζ s.env n
abbrev St.q(s:St)(n:Nat):Option (Nat×κ):=τ s.loc n
abbrev mmm(B:List κ)(p:Nat)(c:List AV)(x:List κ)(T:List Nat):Mem:= {ε:=B.set p (.cells c)++x,θ:=T}
theorem ω{gl:Nat→AV}{c:cx}{a b:AC}{s:St}(M:St→Prop){Q:Ex×St→Prop}(h:∃s',exec gl c fI a s=some (.normal,s')∧M s')(k:∀s',M s'→μ gl c b s' Q):μ gl c (.seq a b) s Q:=μ.seq' h k
theorem bc{gl:Nat→AV}{c:cx}{a b:AC}{s:St}(M:St→Prop){Q:Ex×St→Prop}(h:μ gl c a s fun r=>(r.1= .normal∧M r.2)∨(r.1≠ .normal∧Q r))(k:∀s',M s'→μ gl c b s' Q):μ gl c (.seq a b) s Q:=μ.seq h k
attribute [simp] AV.n St.e St.q mmm
theorem μ.block{gl:Nat->AV}{c:cx}{a:AC}{i:Nat}{s:St}{Q:Ex×St->Prop}(h:μ gl c a s fun r=>(r.1= .exit i/\Q (.normal,r.2))\/(r.1≠ .exit i/\Q r)):μ gl c (.block i a) s Q:=by
 obtain⟨⟨e,s'⟩,h1,h2⟩:=h;rcases h2 with⟨rfl,h2⟩|⟨h2,h3⟩
 ·exact⟨_,by simp only[exec,h1,if_true],h2⟩
 ·refine⟨(e,s'),?_,h3⟩;simp only[exec,h1];cases e with
  |exit j=>
   have:j≠i:=fun he=>h2 (by rw[he])
   simp only[this,if_false]
  |_=>rfl
theorem μ.loop{gl:Nat->AV}{c:cx}{a:AC}{I:Nat->St->Prop}{Q:Ex×St->Prop}(n:Nat){s:St}(h0:I 0 s)
  (step:∀i s,i<=n->I i s->(i<n/\∃s',exec gl c fI a s=some (.normal,s')/\I (i+1) s')\/(∃r,exec gl c fI a s=some r/\r.1≠ .normal/\Q r)):μ gl c (.loop a) s Q:=
 adh n h0 fun i s hi hI=>(step i s hi hI).imp (fun⟨h1,s',h2,h3⟩=>⟨s',h2,h1,h3⟩) id
theorem yX(m:Mem):m.back {ε:=m.ε,θ:=[]}=m:=by cases m;simp[Mem.back,lJ]
theorem Vm(m:Mem)(l:List κ):m.back {ε:=m.ε++l,θ:=[]}=m:=by cases m;simp[Mem.back,lJ]
theorem IX{C:iM}{f:FuncId}{g:AF}{args:List AV}{m:Mem}{ex:Ex}{s':St}{l:List AV}(hp:C.jm f=none)(hf:C.fs f=some g)(hk:C.bw f=false)
  (hx:exec C.gl (aU C) fI g.code {env:=args.map (exp m.ε.length false),loc:=[],mem:= {ε:=m.ε,θ:=[]}}=some (ex,s')) (hex:∀i,ex≠ .exit i) (hl:aY s' g.results=some l):
  aU C (.fn (.func f) [] []) args m=some (ai s'.mem.ε m.ε.length 8 (aV l),m.back s'.mem):=by
 apply ur;simp only[body,hp,hf,hk,cI,List.append_nil,hx];cases ex with
 |exit i=>exact absurd rfl (hex i)
 |_=>simp only[fin,hl];rfl
theorem uq{C:iM}{f:FuncId}{g:AF}{args cap:List AV}{m:Mem}{ex:Ex}{s':St}{l:List AV}(hp:C.jm f=none)(hf:C.fs f=some g)(hk:C.bw f=true)
  (hx:exec C.gl (aU C) fI g.code {env:=(args++cap).map (exp m.ε.length true),loc:=[],mem:= {ε:=m.ε,θ:=[]}}=some (ex,s')) (hex:∀i,ex≠ .exit i) (hl:aY s' g.results=some l):
  aU C (.fn (.func f) [] cap) args m=some (exp s'.mem.ε.length true (aV l),{ε:=s'.mem.ε,θ:=m.θ++s'.mem.θ}):=by
 apply ur;simp only[body,hp,hf,hk,cI,hx];cases ex with
 |exit i=>exact absurd rfl (hex i)
 |_=>simp only[fin,hl];rfl
theorem bD{C:iM}{f:FuncId}{g:AF}{args:List AV}{m:Mem}{v:AV}(hp:C.jm f=none)(hf:C.fs f=some g)(hk:C.bw f=false)
  (hx:μ C.gl (aU C) g.code {env:=args.map (exp m.ε.length false),loc:=[],mem:= {ε:=m.ε,θ:=[]}} fun r=>
   (∀i,r.1≠ .exit i)/\(∃bs,r.2.mem= {ε:=m.ε++bs,θ:=[]})/\∃l,aY r.2 g.results=some l/\ai r.2.mem.ε m.ε.length 8 (aV l)=v):aU C (.fn (.func f) [] []) args m=some (v,m):=by
 obtain⟨⟨ex,s'⟩,h1,h2,⟨bs,h3⟩,l,h4,h5⟩:=hx;rw[IX hp hf hk h1 h2 h4];dsimp only at h3 h5;rw[h5,h3,Vm]
theorem μ.go{gl:Nat->AV}{c:cx}{a b:AC}{s s':St}{Q:Ex×St->Prop}(h:exec gl c fI a s=some (.normal,s'))(k:μ gl c b s' Q):μ gl c (.seq a b) s Q:=
 μ.seq' (M:=fun x=>x=s') ⟨s',h,rfl⟩ fun _ e=>e▸k
theorem μ.mono{gl:Nat->AV}{c:cx}{a:AC}{s:St}{Q Q':Ex×St->Prop}(h:μ gl c a s Q)(k:∀r,Q r->Q' r):μ gl c a s Q':=by obtain⟨r,h1,h2⟩:=h;exact⟨r,h1,k r h2⟩
theorem μ.yes{gl:Nat->AV}{c:cx}{a b:AC}{x:bm}{s:St}{Q:Ex×St->Prop}(hx:dQ gl s.env x= .bool true)(h:μ gl c a s Q):μ gl c (.cond x a b) s Q:=by obtain⟨r,h1,h2⟩:=h;exact⟨r,by simp[exec,hx,h1],h2⟩
theorem μ.no{gl:Nat->AV}{c:cx}{a b:AC}{x:bm}{s:St}{Q:Ex×St->Prop}(hx:dQ gl s.env x= .bool false)(h:μ gl c b s Q):μ gl c (.cond x a b) s Q:=by obtain⟨r,h1,h2⟩:=h;exact⟨r,by simp[exec,hx,h1],h2⟩
theorem μ.upto{gl:Nat->AV}{c:cx}{a:AC}{I:Nat->St->Prop}{Q:Ex×St->Prop}(n:Nat){s:St}(h0:I 0 s)
  (step:∀i s,i<n->I i s->μ gl c a s fun r=>(r.1= .normal/\I (i+1) r.2)\/(r.1≠ .normal/\Q r)) (last:∀s,I n s->μ gl c a s fun r=>r.1≠ .normal/\Q r):μ gl c (.loop a) s Q:=by
 refine μ.loop n h0 fun i s hi hs=>?_;rcases bP i n with h|h
 ·obtain⟨⟨e,s'⟩,h1,h2⟩:=step i s h hs;rcases h2 with⟨rfl,h2⟩|⟨h2,h3⟩
  ·exact .inl ⟨h,s',h1,h2⟩
  ·exact .inr ⟨_,h1,h2,h3⟩
 ·have:i=n:=by omega
  subst this;obtain⟨r,h1,h2,h3⟩:=last s hs;exact .inr ⟨r,h1,h2,h3⟩
theorem RH{C:iM}{f:FuncId}{g:AF}{args cap:List AV}{m m':Mem}{v:AV}(hp:C.jm f=none)(hf:C.fs f=some g)(hk:C.bw f=true)
  (hx:μ C.gl (aU C) g.code {env:=(args++cap).map (exp m.ε.length true),loc:=[],mem:= {ε:=m.ε,θ:=[]}} fun r=>
   (∀i,r.1≠ .exit i)/\(r.2.mem= {ε:=m'.ε,θ:=[]})/\∃l,aY r.2 g.results=some l/\exp m'.ε.length true (aV l)=v) (ht:m'.θ=m.θ):aU C (.fn (.func f) [] cap) args m=some (v,m'):=by
 obtain⟨⟨ex,s'⟩,h1,h2,h3,l,h4,h5⟩:=hx;rw[uq hp hf hk h1 h2 h4];dsimp only at h3 h5;rw[h3];cases m';simp_all
theorem lE{C:iM}{f:FuncId}{g:AF}{fst args cap:List AV}{m:Mem}{v:AV}{B:List κ}(hp:C.jm f=none)(hf:C.fs f=some g)(hk:C.bw f=false)(hB:B.length=m.ε.length)
  (hx:μ C.gl (aU C) g.code {env:=(fst++args++cap).map (exp m.ε.length false),loc:=[],mem:= {ε:=m.ε,θ:=[]}} fun r=>
   (∀i,r.1≠ .exit i)/\(∃bs,r.2.mem= {ε:=B++bs,θ:=[]})/\∃l,aY r.2 g.results=some l/\ai r.2.mem.ε m.ε.length 8 (aV l)=v):aU C (.fn (.func f) fst cap) args m=some (v,{ε:=B,θ:=m.θ}):=by
 obtain⟨⟨ex,s'⟩,h1,h2,⟨bs,h3⟩,l,h4,h5⟩:=hx;have:aU C (.fn (.func f) fst cap) args m=some (ai s'.mem.ε m.ε.length 8 (aV l),m.back s'.mem):=by
  apply ur;simp only[body,hp,hf,hk,h1];cases ex with
  |exit i=>exact absurd rfl (h2 i)
  |_=>simp only[fin,h4];rfl
 rw[this];dsimp only at h3 h5;rw[h5,h3];simp[Mem.back,lJ,<-hB]
theorem rN{C:iM}{f:FuncId}{g:AF}{fst args cap:List AV}{m:Mem}{v:AV}(hp:C.jm f=none)(hf:C.fs f=some g)(hk:C.bw f=false)
  (hx:μ C.gl (aU C) g.code {env:=(fst++args++cap).map (exp m.ε.length false),loc:=[],mem:= {ε:=m.ε,θ:=[]}} fun r=>
   (∀i,r.1≠ .exit i)/\(∃bs,r.2.mem= {ε:=m.ε++bs,θ:=[]})/\∃l,aY r.2 g.results=some l/\ai r.2.mem.ε m.ε.length 8 (aV l)=v):aU C (.fn (.func f) fst cap) args m=some (v,m):=
 lE hp hf hk rfl hx
def first{α:Type}(f:α->Int):List α->Int
 |[]=>0
 |x::l=>if f x≠0 then f x else first f l
theorem zk{α:Type}{f:α->Int}{l:List α}{i:Nat}(hi:i<l.length)(h:∀j (hj:j<l.length),j<i->f l[j]=0)(ak:f l[i]≠0):first f l=f l[i]:=by
 induction l generalizing i with
 |nil=>simp at hi
 |cons a l ih=>
  cases i with
  |zero=>simp only[me]at ak⊢;simp[first,ak]
  |succ i=>
   have h0:=h 0 (by simp) (by omega)
   simp only[me]at h0;simp only[List.getElem_cons_succ]at ak⊢;simp only[first,h0,ne_eq,not_true_eq_false,if_false];exact ih (by simpa using hi) (fun j hj jg=>by have:=h (j+1) (by simp;omega) (by omega);simpa using this) ak
theorem zj{α:Type}{f:α->Int}{l:List α}(h:∀j (hj:j<l.length),f l[j]=0):first f l=0:=by
 induction l with
 |nil=>rfl
 |cons a l ih=>
  have h0:=h 0 (by simp)
  simp only[me]at h0;simp only[first,h0,ne_eq,not_true_eq_false,if_false];exact ih fun j hj=>by have:=h (j+1) (by simp;omega);simpa using this
theorem tu{P:Nat->Prop}{i n:Nat}(h:∀j,j<n->j<i->P j)(hi:P i):∀j,j<n->j<i+1->P j:=fun j hj jg=>by
 rcases bP j i with h'|h'
 ·exact h j hj h'
 ·have:j=i:=by omega
  subst this;exact hi
theorem eC{k n:Int}(h:k≠n):(k==n)=false:=by simpa using h
theorem bne_true{k n:Int}(h:k≠n):(k !=n)=true:=by simpa using h
def Row(n:Nat)(bs:List κ)(sz:Nat)(e:TypeId)(c:χ)(len:Nat):Prop:=((c= .nil\/c= .full)/\len=0)\/∃t,c= .own t/\n<=t/\bs[t]?=some (.front len sz e)
theorem Row.nil{n:Nat}{bs:List κ}{sz:Nat}{e:TypeId}:Row n bs sz e .nil 0:= .inl ⟨.inl rfl,rfl⟩
theorem Row.full{n:Nat}{bs:List κ}{sz:Nat}{e:TypeId}:Row n bs sz e .full 0:= .inl ⟨.inr rfl,rfl⟩
theorem Row.El{n:Nat}{bs:List κ}{sz:Nat}{e:TypeId}{c:χ}{len:Nat}(h:Row n bs sz e c len)(hl:0<len):c.exp n false= .any:=by
 rcases h with⟨_,rfl⟩|⟨t,rfl,h1,h2⟩
 ·omega
 ·simp[χ.exp]
structure Ij (n:Nat) (bs pc:List κ) (e:TypeId):Prop where
 rows:∀eW e' c' k',e'≠e->Row n bs eW e' c' k'->Row n pc eW e' c' k'
 len:bs.length<=pc.length
 HF:∀t,(∀k sz,bs[t]?≠some (.front k sz e))->t<bs.length->pc[t]?=bs[t]?
theorem Ij.refl(n:Nat)(bs:List κ)(e:TypeId):Ij n bs bs e:=⟨fun _ _ _ _ _ h=>h,bF _,fun _ _ _=>rfl⟩
theorem qf{B ext:List κ}{ag:Bool}{sz bytes:Nat}{e:TypeId}{c:χ}{l:List AV}{v:AV}(h:Row B.length (B++ext) sz e c l.length)(hl:l.all (shaped ag sz)=true)(hv:shaped ag sz v=true)(hn:φ v=v)
  (hs:0<sz) (hb:(l.length+1)*bytes<=140737488355328) (bf:l.length+1<=140737488355328):
  ∃c' ext',(∀T,f_ {ε:=B++ext,θ:=T} ag sz bytes e (.list c l) (.list .full [v])=some (.list c' (l++[v]),{ε:=B++ext',θ:=T}))/\Row B.length (B++ext') sz e c' (l.length+1)/\Ij B.length (B++ext) (B++ext') e:=by
 rcases h with⟨hc,h0⟩|⟨t,rfl,h1,h2⟩
 ·have:l=[]:=ma h0;subst this;refine⟨.own (B.length+ext.length),ext++[.front 1 sz e],fun T=>?_,.inr ⟨_,rfl,by omega,?_⟩,⟨fun eW e' c' k' he hr=>?_,by simp,fun t _ ht=>?_⟩⟩
  ·have q1:bytes<=140737488355328:=by simpa using hb
   rcases hc with rfl|rfl<;>simp[f_,hv,hs,Mem.push,Mem.φ,hn,q1]
  ·rw[<-cj];have:B.length+ext.length=(B++ext).length:=by simp
   rw[this];simp
  ·rcases hr with⟨h1,rfl⟩|⟨t,rfl,h1,h2⟩
   ·exact .inl ⟨h1,rfl⟩
   ·refine .inr ⟨t,rfl,h1,?_⟩;rw[<-cj];have ht:t<(B++ext).length:=by
     rcases bP t (B++ext).length with h|h
     ·exact h
     ·rw[gZ h]at h2;cases h2
    rw[dX ht];exact h2
  ·rw[<-cj,dX ht]
 ·have ht:t<(B++ext).length:=by
   rcases bP t (B++ext).length with h|h
   ·exact h
   ·rw[gZ h]at h2;cases h2
  have ky:(B++ext).set t (.front (l.length+1) sz e)=B++ext.set (t-B.length) (.front (l.length+1) sz e):=by rw[List.set_append,if_neg (by omega)]
  refine⟨.own t,ext.set (t-B.length) (.front (l.length+1) sz e),fun T=>?_,.inr ⟨t,rfl,h1,?_⟩,⟨fun eW e' c' k' he hr=>?_,by simp,fun t' hf mW=>?_⟩⟩
  ·simp only[f_];simp only[ah2,hv,ah3,vm,hl,hs,decide_true,List.length_cons,lK,jz,hb,bf,h2,Bool.true_and,if_true,and_self,ay,List.map_nil,Mem.φ,hn,Mem.put,ky]
  ·rw[<-ky,List.getElem?_set_self ht]
  ·rcases hr with⟨h3,rfl⟩|⟨t',rfl,h3,h4⟩
   ·exact .inl ⟨h3,rfl⟩
   ·refine .inr ⟨t',rfl,h3,?_⟩;have:t≠t':=by
     rintro rfl
     rw[h2]at h4;cases h4;exact he rfl
    rw[<-ky,Dw this];exact h4
  ·have:t≠t':=by
    rintro rfl
    exact hf _ _ h2
   rw[<-ky,Dw this]
theorem aft{B ext:List κ}{ag:Bool}{sz bytes:Nat}{e:TypeId}{c:χ}{l:List AV}(hl:l.all (shaped ag sz)=true)(hn:l.map φ=l)(hs:0<sz)(hb:l.length*bytes<=140737488355328)(bf:l.length<=140737488355328):
  ∃c' ext',(∀T,f_ {ε:=B++ext,θ:=T} ag sz bytes e (.list .full []) (.list c l)=some (.list c' l,{ε:=B++ext',θ:=T}))/\Row B.length (B++ext') sz e c' l.length:=by
 cases l with
 |nil=>exact⟨.full,ext,fun T=>by simp[f_,hs],Row.full⟩
 |cons a l=>
  refine⟨.own (B++ext).length,ext++[.front (l.length+1) sz e],fun T=>?_,.inr ⟨_,rfl,by simp,?_⟩⟩
  ·have h0:(([]:List AV).length+(a::l).length)*bytes<=140737488355328:=by simpa using hb
   have h1:([]:List AV).length+(a::l).length<=140737488355328:=by simpa using bf
   have h2:([]:List AV).all (shaped ag sz)=true:=rfl;have h3:(a::l).map (Mem.φ {ε:=B++ext,θ:=T})=a::l:=hn;unfold f_;simp only[hl,h2,hs,decide_true,h0,h1,vm,if_true,h3,cI,Mem.push,cj];simp
  ·rw[<-cj];simp
mutual
theorem AV.beq_refl:∀a:AV,AV.beq a a=true
 | .undef| .cR| .iK| .eJ| .fY| .fJ=>rfl
 | .int _ _| .bool _| .str _| .ae _ _ _| .ν _ _| .sl _ _ _ _ _| .map _=>by simp[AV.beq]
 | .ref l=>by simp only[AV.beq];exact AV.ki l
 | .list _ l=>by simp[AV.beq,AV.ki l]
 | .agg l=>by simp only[AV.beq];exact AV.ki l
 | .aP l=>by simp only[AV.beq];exact AV.ki l
 | .fn _ a b=>by simp[AV.beq,AV.ki a,AV.ki b]
 | .iface _ v=>by simp[AV.beq,AV.beq_refl v]
theorem AV.ki:∀l:List AV,AV.gz l l=true
 |[]=>rfl
 |a::l=>by simp[AV.gz,AV.beq_refl a,AV.ki l]
end
structure Lv (n:Nat) (v w:AV):Prop where
 z:∀bs,ai bs n 8 v=w
 n:φ v=v
structure nT (ag:Bool) (n sz:Nat) (l ws:List AV):Prop where
 z:∀bs,l.map (ai bs n 8)=ws
 n:l.map φ=l
 s:l.all (shaped ag sz)=true
theorem nT.nil{ag:Bool}{n sz:Nat}:nT ag n sz [] []:=⟨fun _=>rfl,rfl,rfl⟩
theorem nT.len{ag:Bool}{n sz:Nat}{l ws:List AV}(h:nT ag n sz l ws):l.length=ws.length:=by have:=h.z [];rw[<-this];simp
theorem nT.snoc{ag:Bool}{n sz:Nat}{l ws:List AV}{v w:AV}(h:nT ag n sz l ws)(hv:Lv n v w)(hs:shaped ag sz v=true):nT ag n sz (l++[v]) (ws++[w]):=
 ⟨fun bs=>by simp[h.z bs,hv.z bs],by simp[h.n,hv.n],by simp only[List.all_append,h.s,ah2,hs,ah3];rfl⟩
theorem zo(bs:List κ)(n:Nat)(c:χ)(l:List AV):ai bs n 8 (.list c l)= .list (c.exp n false) (l.map (ai bs n 8)):=by simp only[ai,bK,nZ]
theorem nT.list{ag:Bool}{n sz:Nat}{l ws:List AV}(h:nT ag n sz l ws)(c:χ):Lv n (.list c l) (.list (c.exp n false) ws):=
 ⟨fun bs=>by rw[zo,h.z],by simp only[φ,fO,h.n]⟩
theorem Lv.str(n:Nat)(s:List Nat):Lv n (.str s) (.str s):=⟨fun _=>rfl,rfl⟩
theorem Lv.int(n:Nat)(k:IntKind)(i:Int):Lv n (.int k i) (.int k i):=⟨fun _=>rfl,rfl⟩
theorem BD(bs:List κ)(n:Nat)(l:List AV):ai bs n 8 (.agg l)= .agg (l.map (ai bs n 8)):=by simp only[ai,bK,nZ]
theorem Lv.agg{n:Nat}{l ws:List AV}(h:∀bs,l.map (ai bs n 8)=ws)(h':l.map φ=l):Lv n (.agg l) (.agg ws):=⟨fun bs=>by rw[BD,h],by simp only[φ,fO,h']⟩
theorem nT.of{ag:Bool}{n sz:Nat}{α:Type}(f:α->AV)(l:List α)(h:∀x∈l,Lv n (f x) (f x)/\shaped ag sz (f x)=true):nT ag n sz (l.map f) (l.map f):=by
 refine⟨fun bs=>?_,?_,?_⟩
 ·rw[c6];exact dt fun x hx=>(h x hx).1.z bs
 ·rw[c6];exact dt fun x hx=>(h x hx).1.n
 ·simp only[List.all_map,List.all_eq_true,Function.comp];exact fun x hx=>(h x hx).2
def kr(w:World):Gh:=⟨fun b o=>w.cell? ⟨b,o,none⟩,fun _=>none,fun _ _=>none⟩
theorem adn(w:World)(own:OW)(LC:eN):a8 (kr w) own LC {ε:=[],θ:=[]} w:=
 ⟨fun _ _ h=>(by cases h),fun _ _ _ h=>(by cases h),fun _ _ h=>(by simp at h),fun _ _ _ h=>h⟩
theorem aen(w:World):bV w.heap.size (fun _=>none) w:=⟨fun _ _ h=>(by cases h),bF _⟩
section
variable{H:Type}{enc:TypeId×Value->H}{P:Program}{w:World}{base:Nat}{spare:Nat->Bool}{held:Bool}
theorem Uo{t e:TypeId}(hu:P.underlying t=some (.slice e)){A:AV->DataW H->Prop}{sz:Nat}(bh:P.cellsOf e=sz)(h0:0<sz){fuel:Nat}{cs:List Value}{x:DataW H×List MemPlace}
  (YP:∀n,n<fuel->∀cs y,DataW.trod enc P w base spare held n e cs=some y->cs.length=sz→
   ∃el,A el y.1/\PW (VR (kr w) bS) el.cells cs/\∀v∈cs,v.oneCell'=true)
  (h:DataW.trod enc P w base spare held fuel t cs=some x):
  ∃v:Value,cs=[v]/\v.oneCell'=true/\((VR (kr w) bS (.list .nil []) v/\x.1= .nil)\/∃(l:List AV) (ds rest:List (DataW H)),VR (kr w) bS (.list .any l) v/\x.1= .slice ds rest/\l.length=ds.length∧
   ∀i (h:i<l.length) (h':i<ds.length),A l[i] ds[i]):=by
 rcases DataW.trod_slice hu h with⟨rfl,rfl⟩|⟨a,len,cap,elems,rest,n,rfl,rfl,rfl,hb,kR,BW,zL,Rg,-,-⟩
 ·exact⟨_,rfl,rfl,.inl ⟨.iJ _,rfl⟩⟩
 ·rw[bh]at Rg;have each:∀i (hi:i<len),∃el cs,A el (elems[i]'(by omega)).1/\PW (VR (kr w) bS) el.cells cs/\(∀v∈cs,v.oneCell'=true)/\cs.length=sz/\∀j,j<sz->w.cell? ((a.add (i*sz)).add j)=cs[j]?:=by intro i hi;have hr:=Rg i hi;rw[dr (by omega)]at hr;obtain⟨ξ,gj,ht⟩:=AS.1 hr;obtain⟨-,hl,n_⟩:=World.cells?_some gj;obtain⟨el,k1,k2,k3⟩:=YP n (by omega) ξ _ ht hl;exact⟨el,ξ,k1,k2,k3,hl,n_⟩
  by_cases hlen:len=0
  ·subst hlen;exact⟨_,rfl,rfl,.inr ⟨[],_,_,.gX _ _ _ _ (.inl rfl),rfl,by simpa using zL.symm,fun i h=>absurd h (Nat.not_lt_zero _)⟩⟩
  ·obtain⟨b,o,spot⟩:=a;have aak:spot=none:=by obtain⟨el,ξ,-,-,-,hl,n_⟩:=each 0 (by omega);have g0:=n_ 0 h0;rw[dr (by omega)]at g0;simpa[Addr.add]using World.cell?_spot g0
   subst aak;have hex:∃F:Nat->AV×List Value,∀i (hi:i<len),A (F i).1 (elems[i]'(by omega)).1/\PW (VR (kr w) bS) (F i).1.cells (F i).2/\(∀v∈(F i).2,v.oneCell'=true)/\(F i).2.length=sz∧
     ∀j,j<sz->w.cell? ⟨b,o+(i*sz+j),none⟩=(F i).2[j]?:=by
    refine⟨fun i=>if hi:i<len then((each i hi).choose,(each i hi).choose_spec.choose)else(.undef,[]),fun i hi=>?_⟩;simp only[dif_pos hi];obtain⟨k1,k2,k3,k4,k5⟩:=(each i hi).choose_spec.choose_spec;refine⟨k1,k2,k3,k4,fun j hj=>?_⟩;rw[<-k5 j hj,Addr.add_mid,Addr.add_mid,Nat.add_assoc]
   obtain⟨F,hF⟩:=hex;refine⟨_,rfl,rfl,.inr ⟨(rC len).map fun i=>(F i).1,_,_,?_,rfl,by simp[zL],fun i hi aj=>?_⟩⟩
   ·refine .list _ .any _ b o sz len cap (fun i j=>(F i).2.getD j Go.undef) (by simp) kR trivial (fun e he=>?_) (fun i hi j hj=>?_) (fun i hi j hj=>?_)
    ·obtain⟨i,hi,rfl⟩:=jy.1 he;have hi:=List.mem_range.1 hi;obtain⟨k1,k2,k3,k4,k5⟩:=hF i hi;rw[k2.1,k4]
    ·obtain⟨k1,k2,k3,k4,k5⟩:=hF i hi;have e1:(F i).2[j]?=some (F i).2[j]:=dr (by omega);refine⟨?_,?_⟩
     ·show w.cell? ⟨b,o+(i*sz+j),none⟩=_;rw[k5 j hj,e1,kJ,e1];rfl
     ·rw[kJ,e1];exact k3 _ (List.getElem_mem _)
    ·have aj:i<len:=by simpa using hi
     obtain⟨k1,k2,k3,k4,k5⟩:=hF i aj;simp only[iz,Ir]at hj⊢;have xO:j<(F i).2.length:=by rw[<-k2.1];exact hj
     have:=k2.2 j hj xO;rw[kJ,dr xO];exact this
   ·have oa:i<len:=by simpa using hi
    simp only[iz,Ir];exact(hF i oa).1
end
open Go.Lib (strCells strCells_length run_append_grow_string run_append_room_string run_firstCells_string)
def oD(w:World)(e:TypeId)(s:List Nat)(v:Value)(r:Option Nat):Prop:=
 (v= .slice none 0 0/\s=[]/\r=none)\/∃(g cap:Nat) (cur:Array Value),r=some g/\v= .slice (some ⟨g,0,none⟩) s.length cap/\s≠[]∧
  w.heap[g]?=some (.cells cur e (0,0))/\cur.size=cap/\s.length<=cap/\cap<=maxLen/\∀i (h:i<s.length),cur[i]?=some (.int .u8 s[i])
theorem agc(s:ByteArray)(i:Nat)(h:i<(s.data.toList.map UInt8.toNat).length):(strCells s)[i]?=some (.int .u8 ((s.data.toList.map UInt8.toNat)[i]:Nat)):=by
 have h':i<s.data.size:=by simpa using h
 simp only[strCells,List.getElem?_map,iz];rw[dr (by simpa using h')];rfl
theorem Vs{P:Program}{w:World}{t u ty e:TypeId}{i:TypeInfo}(ht:P.underlying t=some (.slice e))(hu:P.underlying u=some .string)(hi:P.info? e=some i)(hz:i.zero=some (.int .u8 0))
  (Cu:i.size=1) (GC:i.bytes=1) {v:Value} {r:Option Nat} {q:List Nat} (hv:oD w e q v r) (s:ByteArray) (hlen:q.length+s.size<=140737488355328):
  ∃(v':Value) (w':World) (r':Option Nat),(Builtin.append_ #[t,u] ty #[v,.string s]).run P w= .ok v' w'/\oD w' e (q++s.data.toList.map UInt8.toNat) v' r'/\(r'=r\/r'=some w.heap.size)∧
   w.heap.size<=w'.heap.size/\w'.os=w.os/\w'.tape=w.tape/\w'.output=w.output/\(∀k,k<w.heap.size->r≠some k->w'.heap[k]?=w.heap[k]?):=by
 have lU:∀n HF,n<=140737488355328->grownCap w n HF e<=maxLen:=fun n HF h=>grownCap_le_maxLen w n HF e (by have:maxLen=9223372036854775807:=rfl;omega);have ij:(s.data.toList.map UInt8.toNat).length=s.size:=by rw[dd,vk];rfl
 rcases hv with⟨rfl,rfl,rfl⟩|⟨g,cap,cur,rfl,rfl,ak,hg,fp,kR,BW,fM⟩
 ·simp only[lK,jz]at hlen;by_cases hm:s.size=0
  ·have hn:s.data.toList.map UInt8.toNat=[]:=ma (by rw[ij];exact hm);refine⟨.slice none 0 0,w,none,?_,.inl ⟨rfl,by rw[hn];rfl,rfl⟩,.inl rfl,bF _,rfl,rfl,rfl,fun _ _ _=>rfl⟩;have hf:=run_firstCells_string (P:=P) w 1 s;rw[hm]at hf;have K':strCells s=[]:=ma (by rw[strCells_length,hm]);rw[K']at hf;simp[Builtin.append_,run_underlying ht,run_underlying hu,sizeOf,typeInfo,hi,Cu,Builtin.lenOf,hm,hf]
  ·have hr:=run_append_nil_string (P:=P) w t u ty e i (.int .u8 0) ht hu hi hz s (by omega) (by omega) (by rw[GC];omega);refine⟨_,_,some w.heap.size,hr,.inr ⟨w.heap.size,grownCap w s.size 0 e,_,rfl,?_,?_,pB w.drew _,?_,?_,lU _ _ hlen,fun j hj=>?_⟩,.inr rfl,?_,rfl,rfl,rfl,fun k hk _=>tE w.drew _ hk⟩
   ·simp[ij]
   ·intro h0;rw[cI]at h0;have:=congrArg nr h0;rw[ij]at this;exact hm this
   ·have oV:(Value.int ah4 0).cells.size=1:=rfl;have:=grownCap_ge w s.size 0 e;have YL:s.data.size=s.size:=rfl;rw[Array.size_append,Array.size_map,size_zeroCells,oV,YL];omega
   ·simp only[cI,ij];exact grownCap_ge w _ _ e
   ·simp only[cI]at hj⊢;have dp:j<s.data.size:=by simpa using hj
    rw[Array.getElem?_append_left (by simpa using dp),Array.getElem?_map,Array.getElem?_eq_getElem dp];simp
   ·show w.heap.size<=(w.heap.push _).size;simp
 ·have YG:∀j u,(cur.toList.take q.length)[j]?=some u->w.cell? ((⟨g,0,none⟩:Addr).add j)=some u:=by
   intro j u hj;rw[List.getElem?_take]at hj;split at hj
   ·rw[Addr.add_mid];simpa[World.cell?,hg]using hj
   ·cases hj
  have Cq:(q++s.data.toList.map UInt8.toNat)≠[]:=by simp[ak]
  have n_:∀j (hj:j<(q++s.data.toList.map UInt8.toNat).length),(cur.toList.take q.length++strCells s)[j]?=some (.int .u8 ((q++s.data.toList.map UInt8.toNat)[j]:Nat)):=by
   intro j hj;have er:(cur.toList.take q.length).length=q.length:=by simp;omega
   rcases bP j q.length with h|h
   ·rw[dX (by omega),List.getElem?_take_of_lt h,List.getElem_append_left h,<-fM j h];simp
   ·rw[List.getElem?_append_right (by omega),List.getElem_append_right h,er];exact agc s (j-q.length) (by simp at hj⊢;omega)
  by_cases tK:q.length+s.size<=cap
  ·have hr:=run_append_room_string (P:=P) w t u ty e i ht hu hi Cu g q.length cap cur hg s tK (by omega);refine⟨_,_,some g,hr,.inr ⟨g,cap,_,rfl,by rw[fu,ij],Cq,setRow_heap w g cur _ e _ hg,?_,by rw[fu,ij];exact tK,BW,fun j hj=>?_⟩,.inl rfl,by simp,rfl,rfl,rfl,
    fun k _ hk=>setRow_other w g k _ (fun e=>hk (by rw[e]))⟩
   ·simp only[List.size_toArray,fu,mf,List.length_drop,vk,strCells_length];omega
   ·have dp:j<(cur.toList.take q.length++strCells s).length:=by rw[fu,ij]at hj;have er:cur.toList.length=cur.size:=vk;rw[fu,strCells_length,mf];omega
    have:=n_ j hj;rw[List.getElem?_toArray,dX dp];exact this
  ·have hr:=run_append_grow_string (P:=P) w t u ty e i (.int .u8 0) ht hu hi hz ⟨g,0,none⟩ q.length cap (cur.toList.take q.length) (by rw[Cu];simp;omega) YG s (by omega) (by omega) (by rw[GC];exact growslice_fits (by omega) (by omega));refine⟨_,_,some w.heap.size,hr,.inr ⟨w.heap.size,grownCap w (q.length+s.size) cap e,_,rfl,by rw[fu,ij],Cq,pB w.drew _,?_,?_,lU _ _ (by omega),fun j hj=>?_⟩,.inr rfl,?_,rfl,rfl,rfl,fun k hk _=>tE w.drew _ hk⟩
   ·have oV:(Value.int ah4 0).cells.size=1:=rfl;have:=grownCap_ge w (q.length+s.size) cap e;simp[size_zeroCells,oV,strCells_length];omega
   ·rw[fu,ij];exact grownCap_ge w _ _ e
   ·have dp:j<(cur.toList.take q.length++strCells s).length:=by rw[fu,ij]at hj;have er:cur.toList.length=cur.size:=vk;rw[fu,strCells_length,mf];omega
    have:=n_ j hj;rw[<-this];simp only[<-Array.getElem?_toList,Array.toList_append];rw[dX (by simpa using dp)]
   ·show w.heap.size<=(w.heap.push _).size;simp
section
variable{P:Program}{gl:Nat->AV}{base:Nat}{LC:eN}{g:Gh}{own:OW}{mem:Mem}{w w':World}
structure AG (g:Gh) (own:OW) (w:World) (id:Nat) (T e:TypeId) (s:List Nat) (b:Nat) (p v:Value) (r:Option Nat):Prop where
 mb:g.mb id=some b
 owned:own b=some (.m id)
 im:∀o,g.im b o=none
 heap:w.heap[b]?=some (.cells #[p,v] T (0,0))
 ptr:p= .pointer none\/p= .pointer (some ⟨b,0,none⟩)
 bytes:∀x∈s,x<256
 row:oD w e s v r
 qh:∀k,r=some k->own k=some (.m id)/\k≠b/\∀o,g.im k o=none
theorem NH{id:Nat}{T e:TypeId}{s:List Nat}(h:sX g own LC w id (.nu T e s)):∃b p v r,AG g own w id T e s b p v r:=by
 obtain⟨b,h1,h2,h3,p,v,h4,h5,h6,⟨rfl,rfl⟩|⟨r,cap,cur,q1,q2,q3,q4,q5,q6,q7,q8,q9,fZ⟩⟩:=h
 ·exact⟨b,p,_,none,h1,h2,h3,h4,h5,h6,.inl ⟨rfl,rfl,rfl⟩,fun k hk=>(by cases hk)⟩
 ·exact⟨b,p,v,some r,h1,h2,h3,h4,h5,h6,.inr ⟨r,cap,cur,rfl,q1,q5,q6,q7,q8,q9,fZ⟩,fun k hk=>(by cases hk;exact⟨q2,q3,q4⟩)⟩
theorem Vv{id:Nat}{T e:TypeId}{s:List Nat}{b:Nat}{p v:Value}{r:Option Nat}(h:AG g own w id T e s b p v r):sX g own LC w id (.nu T e s):=by
 refine⟨b,h.mb,h.owned,h.im,p,v,h.heap,h.ptr,h.bytes,?_⟩;rcases h.row with⟨h1,h2,h3⟩|⟨r',cap,cur,hr,q1,q5,q6,q7,q8,q9,fZ⟩
 ·exact .inl ⟨h1,h2⟩
 ·obtain⟨k1,k2,k3⟩:=h.qh r' hr;exact .inr ⟨r',cap,cur,q1,k1,k2,k3,q5,q6,q7,q8,q9,fZ⟩
theorem Vu{id:Nat}{T e:TypeId}{s:List Nat}{b:Nat}{p v:Value}{r:Option Nat}(h:AG g own w id T e s b p v r):b<w.heap.size:=(yO.1 h.heap).1
theorem Vw(hm:a8 g own LC mem w)(ho:bV base own w)(di:mJ g gl){id:Nat}{T e:TypeId}{s s':List Nat}{b:Nat}{p v p' v':Value}{r r':Option Nat}(hid:id<mem.ε.length)
  (hb:AG g own w id T e s b p v r) (bh:w.heap.size<=w'.heap.size) (KT:w'.os=w.os) (Lf:w'.tape=w.tape) (wi:w'.output=w.output)
  (hk:∀k,k<w.heap.size->k≠b->r≠some k->w'.heap[k]?=w.heap[k]?)
  (hh:w'.heap[b]?=some (.cells #[p',v'] T (0,0))) (hp:p'= .pointer none\/p'= .pointer (some ⟨b,0,none⟩)) (hs:∀x∈s',x<256) (dw:oD w' e s' v' r')
  (hr:r'=r\/∃k,r'=some k/\w.heap.size<=k) {rv:AV} {x:Value} (hv:VR g bS rv x):nS base LC gl g own w rv (mem.put id (.nu T e s') true) x w':=by
 have zF:=hb.owned;have hold:∀k,k<w.heap.size->r'=some k->r=some k:=by
  intro k da Cr;rcases hr with h|⟨k0,h,cG⟩
  ·rw[<-h];exact Cr
  ·rw[h]at Cr;cases Cr;omega
 let aO:OW:=fun k=>if r'=some k then some (.m id)else eh own k;have dq:∀k,r'=some k->k<w'.heap.size:=by
  intro k da;rcases dw with⟨_,_,h3⟩|⟨g1,cap,cur,h1,_,_,h4,_⟩
  ·rw[h3]at da;cases da
  ·rw[h1]at da;cases da;exact(yO.1 h4).1
 have ak:∀k mY,own k=some (.m mY)->mY≠id->k<w.heap.size/\k≠b/\r≠some k/\r'≠some k:=by
  intro k mY da ak;have ρ:=(ho.ge k _ da).2;have h2:r≠some k:=fun h=>by have:=(hb.qh k h).1;rw[this]at da;cases da;exact ak rfl
  exact⟨ρ,fun h=>(by rw[h,zF]at da;cases da;exact ak rfl),h2,fun h=>h2 (hold k ρ h)⟩
 have Kv:∀k o y,g.im k o=some y->k≠b/\r≠some k:=fun k o y hy=>⟨fun h=>(by rw[h,hb.im]at hy;cases hy),fun h=>(by rw[(hb.qh k h).2.2]at hy;cases hy)⟩;refine⟨g,aO,⟨g.eG,bh,KT,Lf,wi,fun k ρ hn=>?_,fun k ρ hn=>?_,fun _ _ _ _=>rfl⟩,⟨fun i c hc=>?_,fun t n y hy=>?_,fun i blk hi=>?_,fun k o y hy=>?_⟩,hv,⟨fun k o B9=>?_,xb ho.base bh⟩,fun k d hd=>?_,di⟩
 ·refine hk k ρ (fun h=>?_) (fun h=>?_)
  ·rw[h,u3 zF]at hn;cases hn
  ·rw[u3 (hb.qh k h).1]at hn;cases hn
 ·simp only[aO];split
  ·rename_i h;rw[u3 (hb.qh k (hold k ρ h)).1]at hn;cases hn
  ·exact hn
 ·simp only[Mem.put,fj];exact hm.iR i c hc
 ·simp only[Mem.put,fj];exact hm.na t n y hy
 ·simp only[Mem.put,vq]at hi;split at hi
  ·rename_i xN;subst xN;simp only[aZ]at hi;subst hi;refine Vv ⟨hb.mb,?_,hb.im,hh,hp,hs,dw,fun k da=>⟨by simp only[aO];rw[if_pos da],?_,fun o=>?_⟩⟩
   ·simp only[aO];split
    ·rfl
    ·exact u3 zF
   ·intro h;have ρ:=Vu hb;exact(hb.qh k (hold k (by omega) da)).2.1 h
   ·cases hx:g.im k o with
    |none=>rfl
    |some y=>
     have h1:=vB (hm.im k o y hx)
     have:=(hb.qh k (hold k h1 da)).2.2 o;rw[this]at hx;cases hx
  ·rename_i xN;refine(hm.blk i blk hi).bw g.eG (fun k da=>?_) (fun _ h=>h) (fun h=>h);obtain⟨k1,k2,k3,k4⟩:=ak k i da (fun h=>xN h.symm);exact⟨by simp only[aO];rw[if_neg k4,u3 da,da],hk k k1 k2 k3,fun _=>rfl⟩
 ·have hc:=hm.im k o y hy;obtain⟨k1,k2⟩:=Kv k o y hy;rw[ph (hk k (vB hc) k1 k2)];exact hc
 ·simp only[aO]at B9;split at B9
  ·rename_i h;refine⟨?_,dq k h⟩;rcases bP k w.heap.size with hl|hl
   ·exact(ho.ge k _ (hb.qh k (hold k hl h)).1).1
   ·exact xb ho.base hl
  ·have:=ho.ge k o (tV B9).1;exact⟨this.1,rF this.2 bh⟩
 ·simp only[aO]at hd;split at hd
  ·cases hd
  ·obtain⟨_,i,h⟩:=tV hd;cases h
theorem Vt(hm:a8 g own LC mem w)(ho:bV base own w)(di:mJ g gl){id:Nat}{T e:TypeId}{s:List Nat}{b:Nat}{p v:Value}{r:Option Nat}
  (hb:AG g own w id T e s b p v r) (bh:w.heap.size<=w'.heap.size) (KT:w'.os=w.os) (Lf:w'.tape=w.tape) (wi:w'.output=w.output)
  (hk:∀k,k<w.heap.size->r≠some k->w'.heap[k]?=w.heap[k]?) {rv:AV} {x:Value} (hv:VR g bS rv x):nS base LC gl g own w rv (mem.put id .dead true) x w':=by
 have Kv:∀k o y,g.im k o=some y->r≠some k:=fun k o y hy h=>by rw[(hb.qh k h).2.2]at hy;cases hy
 refine⟨g,eh own,⟨g.eG,bh,KT,Lf,wi,fun k ρ hn=>?_,fun k ρ hn=>by simpa[eh]using hn,fun _ _ _ _=>rfl⟩,⟨fun i c hc=>?_,fun t n y hy=>?_,fun i blk hi=>?_,fun k o y hy=>?_⟩,hv,⟨fun k o B9=>?_,xb ho.base bh⟩,fun k d hd=>?_,di⟩
 ·refine hk k ρ (fun h=>?_);rw[u3 (hb.qh k h).1]at hn;cases hn
 ·simp only[Mem.put,fj];exact hm.iR i c hc
 ·simp only[Mem.put,fj];exact hm.na t n y hy
 ·simp only[Mem.put,vq]at hi;split at hi
  ·split at hi
   ·cases hi;trivial
   ·cases hi
  ·rename_i xN;refine(hm.blk i blk hi).bw g.eG (fun k da=>?_) (fun _ h=>h) (fun h=>h);refine⟨by rw[u3 da,da],hk k (ho.ge k _ da).2 (fun h=>?_),fun _=>rfl⟩;have:=(hb.qh k h).1;rw[da]at this;cases this;exact xN rfl
 ·have hc:=hm.im k o y hy;rw[ph (hk k (vB hc) (Kv k o y hy))];exact hc
 ·have:=ho.ge k o (tV B9).1;exact⟨this.1,rF this.2 bh⟩
 ·obtain⟨_,i,h⟩:=tV hd;cases h
end
def uu(n:Nat):List Nat:=if n<10 then[48+n]else[48+n/10,48+n % 10]
def wK:Prim:=fun args m=>match args with
 |[.int .i64 n]=>if 0<=n/\n<100 then some (.str (uu n.toNat),m)else none
 |_=>none
def yq:Nat->List Nat->Option Nat
 |acc,[]=>some acc
 |acc,b::r=>if 48<=b/\b<=57 then yq (acc*10+(b-48)) r else none
def dx(b:Nat):Bool:=decide (48<=b)&&decide (b<=57)
def tW(te:TypeId):Prim:=fun args m=>match args with
 |[.str s]=>match s with
  |[]=>some (.aP [.int .i64 0,.iface te .cR],m)
  |b::r=>if r.length<=17/\dx b=true then(yq 0 (b::r)).map fun(n:Nat)=>(.aP [.int .i64 (n:Int),.fY],m)else none
 |_=>none
def AA:List AV->Option (List (List Nat))
 |[]=>some []
 | .str s::l=>(AA l).map (s::·)
 |_=>none
def lZ(sep:List Nat):List (List Nat)->List Nat
 |[]=>[]
 |[x]=>x
 |x::l=>x++sep++lZ sep l
def wL:Prim:=fun args m=>match args with
 |[.list _ [],.str _]=>some (.str [],m)
 |[.list _ (x::l),.str sep]=>match AA (x::l)with
  |some l=>if(lZ sep l).length<=140737488355328/\l.length<=140737488355328 then some (.str (lZ sep l),m)else none
  |none=>none
 |_=>none
def iY(c:Nat):List Nat->Nat->Option Nat
 |[],_=>none
 |b::r,i=>if b=c then some i else iY c r (i+1)
def wJ:Prim:=fun args m=>match args with
 |[.str s,.int .u8 c]=>if 0<=c/\c<256 then some (.int .i64 (match iY c.toNat s 0 with
   |some i=>(i:Int)
   |none=> -1),m)else none
 |_=>none
def wI:Prim:=fun args m=>match args with
 |[.map id]=>match m.ε[id]? with
  |some (.map es)=>some (.map m.ε.length,m.push (.map es))
  |_=>none
 |_=>none
def wN(T e:TypeId):Prim:=fun args m=>match args with
 |[.ν id 0,.str s]=>match m.ε[id]? with
  |some (.nu T' e' t)=>if T'=T/\e'=e/\t.length+s.length<=140737488355328 then some (.aP [.int .i64 s.length,.fY],m.put id (.nu T e (t++s)) true)else none
  |_=>none
 |_=>none
def wM(T e:TypeId):Prim:=fun args m=>match args with
 |[.ν id 0]=>match m.ε[id]? with
  |some (.nu T' e' t)=>if T'=T/\e'=e then some (.str t,m.put id .dead true)else none
  |_=>none
 |_=>none
def tX(v:AV):Prim:=fun args m=>match args with
 |[]=>some (v,m)
 |_=>none
section
variable{P:Program}{gl:Nat->AV}{base:Nat}{LC:eN}{f:FuncId}{fn:Func}
theorem HN(hf:P.funcs[f]?=some fn)(hb:fn.body.isNone=false)(hn:(fn.name== "runtime.NumGoroutine")=false){p:Prim}
  (h:∀(g:Gh) (own:OW) (mem:Mem) (w:World) (args:List AV) (r:AV) (m':Mem) (bR:Array Value),a8 g own LC mem w->bV base own w->mJ g gl->PW (VR g bS) args bR.toList->p args mem=some (r,m')→
   m'=mem/\Calls P f bR w fun e w'=>∃x,e= .returned x/\VR g bS r x/\Below w.heap.size w w'):mj Fence.wide P base LC gl f p:=by
 intro n g own mem w args r m' bR hm ho di cU hp;obtain⟨rfl,hc⟩:=h g own mem w args r m' bR hm ho di cU hp;refine D3 hf hb hn (callsIn_wide.2 (hc.mono fun e w' he=>?_));obtain⟨x,rfl,hx,hB⟩:=he;exact⟨x,rfl,V1 hm ho di hB hx⟩
theorem Un{g:Gh}{lb:LB}{k:IntKind}{n:Int}{x:Value}(h:VR g lb (.int k n) x):x= .int k n:=by cases h;rfl
theorem yK{g:Gh}{lb:LB}{s:List Nat}{x:Value}(h:VR g lb (.str s) x):∃b:ByteArray,x= .string b/\b.data.toList.map UInt8.toNat=s:=by cases h;exact⟨_,rfl,by assumption⟩
theorem Um{g:Gh}{lb:LB}{s:List Nat}{l:List UInt8}(h:l.map UInt8.toNat=s):VR g lb (.str s) (.string ⟨l.toArray⟩):= .str _ _ _ (by simpa using h)
theorem Wu(i:Nat)(hi:i<100):(Lib.decDigits i).map UInt8.toNat=uu i:=by
 have:∀j:Fin 100,(Lib.decDigits j.val).map UInt8.toNat=uu j.val:=by decide+kernel
 exact this ⟨i,hi⟩
theorem adJ(hf:P.funcs[f]?=some fn)(hb:fn.body.isNone=false)(hn:(fn.name== "runtime.NumGoroutine")=false)
  (h:∀(i:Nat),i<100->∀w,Calls P f #[.int .i64 i] w fun e w'=>e= .returned (.string ⟨(Lib.decDigits i).toArray⟩)/\w'=w):mj Fence.wide P base LC gl f wK:=by
 refine HN hf hb hn fun g own mem w args r m' bR hm ho di cU hp=>?_;unfold wK at hp;split at hp
 ·rename_i n;split at hp
  ·rename_i hr;simp only[aZ,aN]at hp;obtain⟨rfl,rfl⟩:=hp;obtain⟨x,rfl,hx⟩:=C5 cU;cases Un hx;obtain⟨i,rfl⟩:=Int.eq_ofNat_of_zero_le hr.1;have hi:i<100:=by omega
   refine⟨rfl,(h i hi w).mono fun e w' he=>?_⟩;obtain⟨rfl,rfl⟩:=he;exact⟨_,rfl,Um (by simpa using Wu i hi),Below.refl _ _⟩
  ·cases hp
 ·cases hp
theorem adu(l:List UInt8)(acc:Nat):yq acc (l.map UInt8.toNat)=Lib.decFrom acc l:=by
 induction l generalizing acc with
 |nil=>rfl
 |cons b r ih=>
  simp only[ay,yq,Lib.decFrom,Lib.digitVal]
  by_cases h:48<=b.toNat/\b.toNat<=57
  ·rw[if_pos h,if_pos h];exact ih _
  ·rw[if_neg h,if_neg h]
theorem adG(te:TypeId)(hf:P.funcs[f]?=some fn)(hb:fn.body.isNone=false)(hn:(fn.name== "runtime.NumGoroutine")=false)
  (h:∀(s:ByteArray) (n:Int),s.size<=18->Lib.atoi s.data.toList=some n->∀w,Calls P f #[.string s] w fun e w'=>e= .returned (.tuple #[.int .i64 n,.nilIface])/\Below w.heap.size w w')
  (h0:∀w g,mJ g gl->(∀b o x,g.im b o=some x->w.cell? ⟨b,o,none⟩=some x)->Calls P f #[.string .empty] w fun e w'=>∃N,e= .returned (.tuple #[.int .i64 0,.iface te (.pointer (some ⟨N,0,none⟩))])/\Below w.heap.size w w'):
  mj Fence.wide P base LC gl f (tW te):=by
 refine HN hf hb hn fun g own mem w args r m' bR hm ho di cU hp=>?_;unfold tW at hp;split at hp
 ·rename_i s;split at hp
  ·simp only[aZ,aN]at hp;obtain⟨rfl,rfl⟩:=hp;obtain⟨x,rfl,hx⟩:=C5 cU;obtain⟨bs,rfl,eU⟩:=yK hx;have he:bs= .empty:=by obtain⟨⟨l⟩⟩:=bs;simp at eU;subst eU;rfl
   subst he;refine⟨rfl,(h0 w g di hm.im).mono fun e w' he=>?_⟩;obtain⟨N,rfl,hB⟩:=he;refine⟨_,rfl,.aP _ _ _ rfl (fun i hi aj=>?_),hB⟩
   match i,hi with
   |0,_=>exact .int _ _ _
   |1,_=>exact .iface _ _ _ _ (.cR _ _ rfl)
  ·rename_i b r';split at hp
   ·rename_i hc;simp only[bH,aN]at hp;obtain⟨n,qR,rfl,rfl⟩:=hp;obtain⟨x,rfl,hx⟩:=C5 cU;obtain⟨bs,rfl,eU⟩:=yK hx;have bh:bs.size=r'.length+1:=by have:=congrArg nr eU;simpa using this
    rw[<-eU,adu]at qR;have fM:Lib.atoi bs.data.toList=some (n:Int):=by
     cases hl:bs.data.toList with
     |nil=>rw[hl]at eU;cases eU
     |cons u r2=>
      rw[hl]at eU qR
      simp only[ay,List.cons.injEq]at eU;have hu:48<=u.toNat/\u.toNat<=57:=by have:=hc.2;simp only[dx,Bool.and_eq_true,decide_eq_true_eq]at this;rw[eU.1];exact this
      have e1:(u==45)=false:=by rw[beq_eq_false_iff_ne];rintro rfl;exact absurd hu.1 (by decide)
      have e2:(u==43)=false:=by rw[beq_eq_false_iff_ne];rintro rfl;exact absurd hu.1 (by decide)
      simp only[Lib.atoi,e1,e2,Bool.false_eq_true,if_false,Lib.decNat,List.isEmpty_cons,qR,qv]
    refine⟨rfl,(h bs n (by omega) fM w).mono fun e w' he=>?_⟩;obtain⟨rfl,hB⟩:=he;refine⟨_,rfl,.aP _ _ _ rfl (fun i hi aj=>?_),hB⟩
    match i,hi with
    |0,_=>exact .int _ _ _
    |1,_=>exact .fY _
   ·cases hp
 ·cases hp
theorem aav(c:Nat)(l:List Nat)(i:Nat):iY c l i=(iY c l 0).map (·+i):=by
 induction l generalizing i with
 |nil=>rfl
 |cons b r ih=>
  simp only[iY]
  split
  ·simp
  ·rw[ih (i+1),ih (0+1)];cases iY c r 0<;>simp[Nat.add_comm,Nat.add_left_comm]
theorem aau(c:UInt8)(l:List UInt8):(match iY c.toNat (l.map UInt8.toNat) 0 with
  |some i=>(i:Int)
  |none=> -1)=Lib.indexByte l c:=by
 induction l with
 |nil=>rfl
 |cons b r ih=>
  simp only[ay,iY,Lib.indexByte]
  by_cases h:b=c
  ·subst h;simp
  ·have h1:¬b.toNat=c.toNat:=fun e=>h (UInt8.toNat_inj.1 e);have h2:(b==c)=false:=by simpa using h
   rw[if_neg h1,aav,h2];cases hx:iY c.toNat (r.map UInt8.toNat) 0 with
   |none=>rw[hx]at ih;simp only at ih;simp[<-ih]
   |some k=>
    rw[hx]at ih
    simp only at ih;have:((k:Int)== -1)=false:=by rw[beq_eq_false_iff_ne];omega
    simp[<-ih,this]
theorem adI(hf:P.funcs[f]?=some fn)(hb:fn.body.isNone=false)(hn:(fn.name== "runtime.NumGoroutine")=false)
  (h:∀(s:ByteArray) (c:Int) (w:World),Calls P f #[.string s,.int .u8 c] w fun e w'=>e= .returned (.int .i64 (Lib.indexByte s.data.toList c.toNat.toUInt8))/\w'=w):mj Fence.wide P base LC gl f wJ:=by
 refine HN hf hb hn fun g own mem w args r m' bR hm ho di cU hp=>?_;unfold wJ at hp;split at hp
 ·rename_i s c;split at hp
  ·rename_i hc;simp only[aZ,aN]at hp;obtain⟨rfl,rfl⟩:=hp;obtain⟨x,y,rfl,hx,hy⟩:=HO cU;obtain⟨bs,rfl,rfl⟩:=yK hx;cases Un hy;refine⟨rfl,(h bs c w).mono fun e w' he=>?_⟩;obtain⟨rfl,rfl⟩:=he;refine⟨_,rfl,?_,Below.refl _ _⟩;have kQ:c.toNat=(c.toNat.toUInt8).toNat:=by rw[Nat.toUInt8_eq,UInt8.toNat_ofNat'];omega
   have:=aau c.toNat.toUInt8 bs.data.toList;rw[<-kQ]at this;rw[this];exact .int _ _ _
  ·cases hp
 ·cases hp
theorem age{l:List AV}{ss:List (List Nat)}(h:AA l=some ss):l=ss.map .str:=by
 induction l generalizing ss with
 |nil=>cases h;rfl
 |cons a l ih=>
  cases a<;>simp only[AA]at h<;>first|(cases h;done)|skip
  simp only[bH]at h;obtain⟨t,ht,rfl⟩:=h;simp[ih ht]
theorem aaI(sep:List UInt8)(l:List (List UInt8)):lZ (sep.map UInt8.toNat) (l.map (·.map UInt8.toNat))=(Lib.join l sep).map UInt8.toNat:=by
 induction l with
 |nil=>rfl
 |cons x l ih=>
  cases l with
  |nil=>simp[lZ,Lib.join_one]
  |cons y l=>
   rw[Lib.join_cons]
   rw[Lib.join_cons]at ih;simp only[ay,lZ]at ih⊢;rw[ih];simp[Lib.joinTail]
theorem adK(hf:P.funcs[f]?=some fn)(hb:fn.body.isNone=false)(hn:(fn.name== "runtime.NumGoroutine")=false)
  (h0:∀(a:Option Addr) (c:Nat) (sep:ByteArray) (w:World),Calls P f #[.slice a 0 c,.string sep] w fun e w'=>e= .returned (.string ⟨#[]⟩)/\w'=w)
  (h:∀(bk o c:Nat) (xs:List ByteArray) (sep:ByteArray) (w:World),(∀(j:Nat) x,xs[j]?=some x->w.cell? ⟨bk,o+j,none⟩=some (.string x))->bk<w.heap.size->xs.length<=140737488355328->xs.length<=c→
   (Lib.join (xs.map (·.data.toList)) sep.data.toList).length<=140737488355328→
   Calls P f #[.slice (some ⟨bk,o,none⟩) xs.length c,.string sep] w fun e w'=>e= .returned (.string ⟨(Lib.join (xs.map (·.data.toList)) sep.data.toList).toArray⟩)/\Below w.heap.size w w'):mj Fence.wide P base LC gl f wL:=by
 refine HN hf hb hn fun g own mem w args r m' bR hm ho di cU hp=>?_;unfold wL at hp;split at hp
 ·rename_i c sep;simp only[aZ,aN]at hp;obtain⟨rfl,rfl⟩:=hp;obtain⟨xv,yv,rfl,hx,hy⟩:=HO cU;obtain⟨sb,rfl,rfl⟩:=yK hy;obtain⟨a,cap,rfl⟩:∃a cap,xv= .slice a 0 cap:=by
   cases hx with
   |iJ=>exact⟨_,_,rfl⟩
   |gX _ _ a cap=>exact⟨_,_,rfl⟩
   |list _ _ _ b o sz n cap xs hn=>simp at hn;subst hn;exact⟨_,_,rfl⟩
  refine⟨rfl,(h0 a cap sb w).mono fun e w' he=>?_⟩;obtain⟨rfl,rfl⟩:=he;exact⟨_,rfl,.str _ _ _ rfl,⟨rfl,rfl,rfl,bF _,fun _ _=>rfl⟩⟩
 ·rename_i c x l sep;split at hp
  ·rename_i ss hss;split at hp
   ·rename_i hlen;simp only[aZ,aN]at hp;obtain⟨rfl,rfl⟩:=hp;have ij:=age hss;obtain⟨xv,yv,rfl,hx,hy⟩:=HO cU;obtain⟨sb,rfl,rfl⟩:=yK hy;rw[ij]at hx;have ak:ss≠[]:=by rintro rfl;cases ij
    obtain⟨bk,o,cap,vs,rfl,db,-,lR,cu⟩:=hx.flat (sz:=1) (fun e he=>by obtain⟨s,_,rfl⟩:=jy.1 he;rfl) (by simpa using ak);have uQ:vs.length=ss.length:=by have:=lR.1;simpa using this
    have pR:∀j,j<ss.length->∃bs:ByteArray,vs[j]?=some (.string bs)/\bs.data.toList.map UInt8.toNat=ss.getD j []:=by
     intro j hj;have e0:(ss.map AV.str)[j]'(by simpa using hj)= .str ss[j]:=by simp
     have hv:=lR.2.2.2 j (by simpa using hj) 0 (by rw[e0];simp[AV.cells]) (by omega);simp only[e0,AV.cells,me,Nat.mul_one,Nat.add_zero]at hv;obtain⟨bs,h1,h2⟩:=yK hv;refine⟨bs,?_,?_⟩
     ·rw[dr (by omega),h1]
     ·rw[h2,kJ,dr hj];rfl
    let xs:List ByteArray:=(rC ss.length).map fun j=>match(vs[j]?:Option Value)with
     |some (Value.string b)=>b
     |_=> .empty
    have qU:xs.length=ss.length:=by simp[xs]
    have Ll:∀j (hj:j<ss.length),∃bs:ByteArray,xs[j]?=some bs/\vs[j]?=some (.string bs)/\bs.data.toList.map UInt8.toNat=ss[j]:=by intro j hj;obtain⟨bs,h1,h2⟩:=pR j hj;refine⟨bs,?_,h1,by rw[h2,kJ,dr hj];rfl⟩;simp[xs,hj,h1]
    have xU:(xs.map (·.data.toList)).map (·.map UInt8.toNat)=ss:=by
     apply List.ext_getElem (by simp[qU]);intro j h1 h2;obtain⟨bs,k1,k2,k3⟩:=Ll j h2;have Zq:j<xs.length:=by omega
     rw[dr Zq]at k1;cases k1;simpa using k3
    have hj:=aaI sb.data.toList (xs.map (·.data.toList));rw[xU]at hj;rw[hj]at hlen⊢;simp only[dd]at hlen;have hle:ss.length<=cap:=by simpa using db
    have n_:∀(j:Nat) x,xs[j]?=some x->w.cell? ⟨bk,o+j,none⟩=some (.string x):=by
     intro j y lX;have Kz:j<ss.length:=by rw[<-qU];exact(kg.1 lX).1
     obtain⟨bs,k1,k2,-⟩:=Ll j Kz;rw[k1]at lX;cases lX;exact hm.im _ _ _ (cu j _ k2)
    have h0:0<ss.length:=List.length_pos_iff.2 ak;have J8:bk<w.heap.size:=by obtain⟨bs,k1,-,-⟩:=Ll 0 h0;exact vB (n_ 0 bs k1)
    have hc:=h bk o cap xs sb w n_ J8 (by omega) (by omega) hlen.1;rw[qU]at hc;rw[dd];refine⟨rfl,hc.mono fun e w' he=>?_⟩;obtain⟨rfl,hB⟩:=he;exact⟨_,rfl,Um rfl,hB⟩
   ·cases hp
  ·cases hp
 ·cases hp
theorem Wb{g:Gh}{own:OW}{mem:Mem}{w:World}(hm:a8 g own LC mem w)(ho:bV base own w)(di:mJ g gl){id:Nat}{es:List (AV×AV)}(hb:mem.ε[id]?=some (.map es)){b:Nat}(iT:g.mb id=some b):
  ∃a clock,w.heap[b]?=some (.map a clock)/\nS base LC gl g own w (.map mem.ε.length) (mem.push (.map es)) (.map (some w.heap.size)) (w.alloc (.map a clock)):=by
 obtain⟨b',h1,h2,h3,a,clock,h4,h5,h6,h7⟩:=hm.blk id _ hb;rw[iT]at h1;cases h1;refine⟨a,clock,h4,?_⟩;have ly:=hm.eh;have mU:=ho.eh;have cu:∀o,g.im w.heap.size o=none:=wv hm;let g':Gh:= {g with mb:=fun id=>if id=mem.ε.length then some w.heap.size else g.mb id};have dH:g.sub g':=⟨fun _ _ _ h=>h,fun id b hb=>by
  have:=hm.iR id b hb
  simp only[g'];rw[if_neg (by omega)];exact hb,fun _ _ _ h=>h⟩
 have ψ:=dZ.alloc g (eh own) w (.map a clock) (some (.m mem.ε.length));refine⟨g',_,⟨dH,ψ.size,ψ.os,ψ.tape,ψ.output,ψ.bw,ψ.jO,ψ.im⟩,?_,.map _ _ _ (by simp[g']),mU.alloc _ _,fun b d hb=>?_,di.mono dH⟩
 ·refine ly.push (ly.alloc mU _ _) _ _ (fun id b hb=>?_) (fun id hid=>?_) ?_
  ·split at hb
   ·exact .inr (by assumption)
   ·exact .inl hb
  ·exact if_neg (by omega)
  ·exact⟨w.heap.size,by simp,by simp[gq],cu,a,clock,pB w _,h5,fun i hi aj=>⟨(h6 i hi aj).1.sub dH,(h6 i hi aj).2.sub dH⟩,h7⟩
 ·unfold gq at hb;split at hb
  ·cases hb
  ·obtain⟨_,i,h⟩:=tV hb;cases h
theorem adH(hf:P.funcs[f]?=some fn)(hb:fn.body.isNone=false)(hn:(fn.name== "runtime.NumGoroutine")=false)
  (h:∀(b:Nat) (es:Array MapEntry) (clock:Nat) (w:World),w.heap[b]?=some (.map es clock)→
   Calls P f #[.map (some b)] w fun e w'=>e= .returned (.map (some w.heap.size))/\w'=w.alloc (.map es clock)):mj Fence.wide P base LC gl f wI:=by
 intro n g own mem w args r m' bR hm ho di cU hp;unfold wI at hp;split at hp
 ·rename_i id;split at hp
  ·rename_i es gi;simp only[aZ,aN]at hp;obtain⟨rfl,rfl⟩:=hp;obtain⟨x,rfl,hx⟩:=C5 cU;cases hx with
   |map _ _ b iT=>
    obtain⟨a,clock,h1,h2⟩:=Wb hm ho di gi iT
    refine D3 hf hb hn (callsIn_wide.2 ((h b a clock w h1).mono fun e w' he=>?_));obtain⟨rfl,rfl⟩:=he;exact⟨_,rfl,h2⟩
  ·cases hp
 ·cases hp
theorem aew:∀args m r m',wI args m=some (r,m')->KM m m':=by
 intro args m r m' hp;unfold wI at hp;split at hp
 ·split at hp
  ·simp only[aZ,aN]at hp;obtain⟨rfl,rfl⟩:=hp;exact KM.push _ _
  ·cases hp
 ·cases hp
def Na(w w':World)(b:Nat)(r:Option Nat):Prop:=
 w.heap.size<=w'.heap.size/\w'.os=w.os/\w'.tape=w.tape/\w'.output=w.output/\∀k,k<w.heap.size->k≠b->r≠some k->w'.heap[k]?=w.heap[k]?
theorem adM{T e:TypeId}(hf:P.funcs[f]?=some fn)(hb:fn.body.isNone=false)(hn:(fn.name== "runtime.NumGoroutine")=false)
  (h:∀(b:Nat) (s:ByteArray) (p v:Value) (r:Option Nat) (q:List Nat) (w:World),w.heap[b]?=some (.cells #[p,v] T (0,0))->(p= .pointer none\/p= .pointer (some ⟨b,0,none⟩))->oD w e q v r->r≠some b→
   q.length+s.size<=140737488355328→
   Calls P f #[.pointer (some ⟨b,0,none⟩),.string s] w fun en w'=>en= .returned (.tuple #[.int .i64 s.size,.nilIface])/\Na w w' b r/\∃p' v' r',w'.heap[b]?=some (.cells #[p',v'] T (0,0))∧
    (p'= .pointer none\/p'= .pointer (some ⟨b,0,none⟩))/\oD w' e (q++s.data.toList.map UInt8.toNat) v' r'/\(r'=r\/∃k,r'=some k/\w.heap.size<=k)):
  mj Fence.wide P base LC gl f (wN T e):=by
 intro n g own mem w args r m' bR hm ho di cU hp;unfold wN at hp;split at hp
 ·rename_i id s;split at hp
  ·rename_i T' e' t gi;split at hp
   ·rename_i hc;obtain⟨rfl,rfl,hlen⟩:=hc;simp only[aZ,aN]at hp;obtain⟨rfl,rfl⟩:=hp;obtain⟨x,y,rfl,hx,hy⟩:=HO cU;obtain⟨bs,rfl,rfl⟩:=yK hy;have eQ:(bs.data.toList.map UInt8.toNat).length=bs.size:=by rw[dd,vk];rfl
    cases hx with
    |ν _ _ _ b iT=>
     obtain⟨b',p,v,Dc,oO⟩:=NH (hm.blk id _ gi)
     have:=oO.mb;rw[iT]at this;cases this;have wk:Dc≠some b:=fun he=>(oO.qh b he).2.1 rfl;refine D3 hf hb hn (callsIn_wide.2 ((h b bs p v Dc t w oO.heap oO.ptr oO.row wk (by omega)).mono fun en w' he=>?_));obtain⟨rfl,⟨k1,k2,k3,k4,k5⟩,p',v',r',k6,k7,k8,k9⟩:=he;refine⟨_,rfl,Vw hm ho di (kg.1 gi).1 oO k1 k2 k3 k4 k5 k6 k7 (fun z hz=>?_) k8 k9 (.aP _ _ _ rfl fun i hi aj=>?_)⟩
     ·rcases List.mem_append.1 hz with hz|hz
      ·exact oO.bytes z hz
      ·obtain⟨u,_,rfl⟩:=jy.1 hz;exact u.toNat_lt
     ·rw[eQ]at hi
      match i,hi with
      |0,_=>simp only[eQ];exact .int _ _ _
      |1,_=>exact .fY _
   ·cases hp
  ·cases hp
 ·cases hp
theorem adL{T e:TypeId}(hf:P.funcs[f]?=some fn)(hb:fn.body.isNone=false)(hn:(fn.name== "runtime.NumGoroutine")=false)
  (h:∀(b:Nat) (p v:Value) (r:Option Nat) (q:List Nat) (w:World),w.heap[b]?=some (.cells #[p,v] T (0,0))->oD w e q v r->r≠some b->(∀x∈q,x<256)→
   Calls P f #[.pointer (some ⟨b,0,none⟩)] w fun en w'=>∃bs:ByteArray,en= .returned (.string bs)/\bs.data.toList.map UInt8.toNat=q∧
    w.heap.size<=w'.heap.size/\w'.os=w.os/\w'.tape=w.tape/\w'.output=w.output/\∀k,k<w.heap.size->r≠some k->w'.heap[k]?=w.heap[k]?):
  mj Fence.wide P base LC gl f (wM T e):=by
 intro n g own mem w args r m' bR hm ho di cU hp;unfold wM at hp;split at hp
 ·rename_i id;split at hp
  ·rename_i T' e' t gi;split at hp
   ·rename_i hc;obtain⟨rfl,rfl⟩:=hc;simp only[aZ,aN]at hp;obtain⟨rfl,rfl⟩:=hp;obtain⟨x,rfl,hx⟩:=C5 cU;cases hx with
    |ν _ _ _ b iT=>
     obtain⟨b',p,v,Dc,oO⟩:=NH (hm.blk id _ gi)
     have:=oO.mb;rw[iT]at this;cases this;have wk:Dc≠some b:=fun he=>(oO.qh b he).2.1 rfl;refine D3 hf hb hn (callsIn_wide.2 ((h b p v Dc t w oO.heap oO.row wk oO.bytes).mono fun en w' he=>?_));obtain⟨bs,rfl,eU,k1,k2,k3,k4,k5⟩:=he;exact⟨_,rfl,Vt hm ho di oO k1 k2 k3 k4 k5 (.str _ _ _ eU)⟩
   ·cases hp
  ·cases hp
 ·cases hp
theorem aeB(T e:TypeId):∀args m r m',wN T e args m=some (r,m')->KM m m':=by
 intro args m r m' hp;unfold wN at hp;split at hp
 ·split at hp
  ·split at hp
   ·simp only[aZ,aN]at hp;obtain⟨rfl,rfl⟩:=hp;exact KM.set (fun _ h=>by cases h) _
   ·cases hp
  ·cases hp
 ·cases hp
theorem aeA(T e:TypeId):∀args m r m',wM T e args m=some (r,m')->KM m m':=by
 intro args m r m' hp;unfold wM at hp;split at hp
 ·split at hp
  ·split at hp
   ·simp only[aZ,aN]at hp;obtain⟨rfl,rfl⟩:=hp;exact KM.set (fun _ h=>by cases h) _
   ·cases hp
  ·cases hp
 ·cases hp
theorem Mf{aF:cx}{v:AV}(iH:np Fence.wide P base LC gl aF)(YH:∀mem,aF (.fn (.func f) [] []) [] mem=some (v,mem)):mj Fence.wide P base LC gl f (tX v):=by
 intro n g own mem w args r m' bR hm ho di cU hp;unfold tX at hp;split at hp
 ·simp only[aZ,aN]at hp;obtain⟨rfl,rfl⟩:=hp;have hv:bR= #[]:=by have h0:=cU.1;simp at h0;exact Array.size_eq_zero_iff.1 (by omega)
  subst hv;have mB:VR g bS (.fn (.func f) [] []) (.func (.func f) #[] #[]):= .fn _ _ _ _ _ _ _ rfl rfl rfl (fun i hi=>by simp at hi) (fun i hi=>by simp at hi);have:=iH n g bS own mem w _ _ _ _ _ #[] hm ho di mB cU (YH mem);have dj:(do let d<-Deferred.ofValue (.func (.func f) #[] #[]) #[];invoke d.target d.args:Sem Next).run P w=(callFunc f #[]).run P w:=by simp only[Deferred.ofValue,Sem.run_bind,Sem.run_pure,Result.andThen_ok,invoke];rfl
  unfold AH at this;rw[dj]at this;exact this
 ·cases hp
end
end Go.ah
