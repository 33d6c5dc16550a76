/- A text of this proof. -/
import Derived.Test.YtiigojkfojnedaaGreatDoorPI
import Derived.Laws.Build
set_option linter.unusedVariables false
set_option linter.unusedSimpArgs false
namespace Go.Abs
section
variable {P : Program} {base : Nat} {LC : LCR} {g : Gh} {lb : LB} {own : OW} {loc : Nat -> Option (Nat × Blk)} {mem : Mem} {w : World} {esc : Nat -> Bool} {callv : CallV}
variable {ev : Opd -> AV} {a : Act} {o : Oper} {ao : AO} {v : AV} {u : Upd} {m' : Mem}
theorem OpOK.pure (hm : MemR g own LC mem w) (hl : LocR g lb own loc w) (ho : OwnR base own w) {x : Value} (h1 : (execOp a.eval o).run P w = .ok (.value x) w) (h2 : VR g lb v x) :
  OpOK P base LC g lb own loc w a o v none mem := ⟨x,w,.inl h1,Post.pure hm hl ho h2⟩
theorem op_mv (hev : EvOK g lb ev a) (hm : MemR g own LC mem w) (hl : LocR g lb own loc w) (ho : OwnR base own w) {x : Operand} (hop : o.op = .move x \/ o.op = .assign x)
  (hc : copO P esc o = some ao) (hr : aop ev loc mem callv o.dst ao = some (v,u,m')) : OpOK P base LC g lb own loc w a o v u m' := by
 have hx : ∃ x',cOpd x = some x' /\ ao = .mv x' := by
  rcases hop with hop | hop <;> simp only [copO,hop,Option.map_eq_some_iff] at hc <;> (obtain ⟨x',h1,rfl⟩ := hc; exact ⟨x',h1,rfl⟩)
 obtain ⟨x',hx',rfl⟩ := hx
 simp only [aop,Option.some.injEq,Prod.mk.injEq] at hr
 obtain ⟨rfl,rfl,rfl⟩ := hr
 exact .pure hm hl ho (by rcases hop with hop | hop <;> simp only [execOp,hop] <;> rfl) (hev _ _ hx')
theorem op_pick (hev : EvOK g lb ev a) (hm : MemR g own LC mem w) (hl : LocR g lb own loc w) (ho : OwnR base own w) {x y z : Operand} (hop : o.op = .pick x y z)
  (hc : copO P esc o = some ao) (hr : aop ev loc mem callv o.dst ao = some (v,u,m')) : OpOK P base LC g lb own loc w a o v u m' := by
 simp only [copO,hop] at hc
 split at hc
 ·rename_i x' y' z' h1 h2 h3
  cases hc
  simp only [aop] at hr
  split at hr
  ·rename_i t ht
   simp only [Option.some.injEq,Prod.mk.injEq] at hr
   obtain ⟨rfl,rfl,rfl⟩ := hr
   have k1 := hev _ _ h1
   rw [ht] at k1
   cases hx : a.eval x <;> rw [hx] at k1 <;> cases k1
   refine .pure (x := if t then a.eval y else a.eval z) hm hl ho ?_ ?_
   ·simp only [execOp,hop,hx]
    cases t <;> rfl
   ·cases t
    ·exact hev _ _ h3
    ·exact hev _ _ h2
  ·cases hr
 ·cases hc
theorem op_build (hev : EvOK g lb ev a) (hm : MemR g own LC mem w) (hl : LocR g lb own loc w) (ho : OwnR base own w) {t : TypeId} {parts : Array (Nat × Operand)} (hop : o.op = .build t parts)
  (hc : copO P esc o = some ao) (hr : aop ev loc mem callv o.dst ao = some (v,u,m')) : OpOK P base LC g lb own loc w a o v u m' := by
 have key : ∃ z ps,ao = .build z ps /\ tyZero P t = some z /\ ((∃ fields m,P.underlying t = some (.struct fields) /\ places P fields.toList = some m /\ cPartsS P fields parts.toList = some ps) ∨
   (∃ n e sz,P.underlying t = some (.array n e) /\ tySz P e = some sz /\ cPartsA sz parts.toList = some ps)) := by
  simp only [copO,hop] at hc
  split at hc
  ·rename_i z fields hz hu
   split at hc
   ·rename_i m hpl
    simp only [Option.map_eq_some_iff] at hc
    obtain ⟨ps,h1,rfl⟩ := hc
    exact ⟨z,ps,rfl,hz,.inl ⟨fields,m,hu,hpl,h1⟩⟩
   ·cases hc
  ·rename_i z n e hz hu
   split at hc
   ·rename_i sz hsz
    simp only [Option.map_eq_some_iff] at hc
    obtain ⟨ps,h1,rfl⟩ := hc
    exact ⟨z,ps,rfl,hz,.inr ⟨n,e,sz,hu,hsz,h1⟩⟩
   ·cases hc
  ·cases hc
 obtain ⟨z,ps,rfl,hz,hps⟩ := key
 simp only [aop,Option.map_eq_some_iff,Prod.mk.injEq] at hr
 obtain ⟨r,hr,rfl,rfl,rfl⟩ := hr
 obtain ⟨x,h1,h2⟩ := run_build (w := w) hev hz hps hr
 exact .pure hm hl ho (by simp only [execOp,hop,Sem.run_bind,h1,Result.andThen_ok]; rfl) h2
theorem VR.fn_no {f f' : Fn} {l m : List AV} {x y : Array Value} (h : VR g lb (.fn f l m) (.func f' x y)) (hn : ¬FnR g.mb f f') : False := by
 cases h; rename_i hy _ _; exact hn (by assumption)
theorem op_nilck (hev : EvOK g lb ev a) (hm : MemR g own LC mem w) (hl : LocR g lb own loc w) (ho : OwnR base own w) {x : Operand} (hop : o.op = .nilCheck x)
  (hc : copO P esc o = some ao) (hr : aop ev loc mem callv o.dst ao = some (v,u,m')) : OpOK P base LC g lb own loc w a o v u m' := by
 simp only [copO,hop,Option.map_eq_some_iff] at hc
 obtain ⟨x',h1,rfl⟩ := hc
 have k1 := hev _ _ h1
 have key : v = ev x' /\ u = none /\ m' = mem /\ (execOp a.eval o).run P w = .ok (.value (a.eval x)) w := by
  simp only [aop] at hr
  split at hr <;> first | (cases hr; done) | skip
  all_goals
   rename_i he
   rw [he] at k1
   simp only [Option.some.injEq,Prod.mk.injEq] at hr
   obtain ⟨rfl,rfl,rfl⟩ := hr
   refine ⟨he.symm,rfl,rfl,?_⟩
   cases hx : a.eval x <;> rw [hx] at k1 <;> first
    | (cases k1; done)
    | (cases k1; simp only [execOp,hop,hx]; rfl)
    | (rename_i f' _ _; cases f' <;> first | (cases k1; simp only [execOp,hop,hx]; rfl) | (exact (VR.fn_no k1 (by simp [FnR])).elim))
 obtain ⟨rfl,rfl,rfl,h2⟩ := key
 exact .pure hm hl ho h2 k1
theorem run_eqGuard_int (op : BinOp) (t : TypeId) (x y : Operand) {xv yv : Value} (h : (∀ l,xv ≠ .agg l) /\ xv ≠ .nilIface) : (eqGuard op t x y xv yv).run P w = .ok () w := by
 cases xv <;> first | (exact absurd rfl (h.1 _)) | (exact absurd rfl h.2) | skip
 all_goals cases op <;> rfl
theorem op_bin (hev : EvOK g lb ev a) (hm : MemR g own LC mem w) (hl : LocR g lb own loc w) (ho : OwnR base own w) {op : BinOp} {t ty : TypeId} {x y : Operand} (hop : o.op = .binOp op t x y ty)
  {x' y' : Opd} (hx : cOpd x = some x') (hy : cOpd y = some y')
  (hr : aop ev loc mem callv o.dst (.bin op x' y') = some (v,u,m')) : OpOK P base LC g lb own loc w a o v u m' := by
 simp only [aop,Option.map_eq_some_iff,Prod.mk.injEq] at hr
 obtain ⟨r,hr,rfl,rfl,rfl⟩ := hr
 have k1 := hev _ _ hx
 have k2 := hev _ _ hy
 obtain ⟨z,h1,h2⟩ := aBin_spec (P := P) (w := w) (t := t) k1 k2 hr
 refine .pure hm hl ho ?_ h2
 have hg : (∀ l,a.eval x ≠ .agg l) /\ a.eval x ≠ .nilIface := by
  unfold aBin at hr
  split at hr <;> first | (cases hr; done) | skip
  all_goals
   rename_i he _
   rw [he] at k1
   cases hz : a.eval x <;> rw [hz] at k1 <;> cases k1 <;> simp
 simp only [execOp,hop,Sem.run_bind,run_eqGuard_int op t x y hg,h1,Result.andThen_ok]
 rfl
theorem op_eqb (hev : EvOK g lb ev a) (hm : MemR g own LC mem w) (hl : LocR g lb own loc w) (ho : OwnR base own w) {op : BinOp} {t ty : TypeId} {x y : Operand} (hop : o.op = .binOp op t x y ty)
  {x' y' : Opd} (hx : cOpd x = some x') (hy : cOpd y = some y') (hu : P.underlying t = some .bool) {neg : Bool} (hn : op = if neg then .neq else .eql)
  (hr : aop ev loc mem callv o.dst (.eqb neg x' y') = some (v,u,m')) : OpOK P base LC g lb own loc w a o v u m' := by
 simp only [aop] at hr
 split at hr
 ·rename_i b c e1 e2
  simp only [Option.some.injEq,Prod.mk.injEq] at hr
  obtain ⟨rfl,rfl,rfl⟩ := hr
  have k1 := hev _ _ hx
  have k2 := hev _ _ hy
  rw [e1] at k1; rw [e2] at k2
  cases hxe : a.eval x <;> rw [hxe] at k1 <;> cases k1
  cases hye : a.eval y <;> rw [hye] at k2 <;> cases k2
  have he : (Op.equal t (.bool b) (.bool c)).run P w = .ok (b == c) w := run_equalIn_bool 9999 hu b c
  refine .pure (x := .bool (if neg then !(b == c) else b == c)) hm hl ho ?_ (.bool _ _)
  cases neg <;> simp only [Bool.false_eq_true,if_false,if_true] at hn <;> subst hn
  ·simp only [execOp,hop,hxe,hye,Sem.run_bind,run_eqGuard_int .eql t x y (xv := .bool b) (yv := .bool c) (by simp),Result.andThen_ok,binOp,he]; rfl
  ·simp only [execOp,hop,hxe,hye,Sem.run_bind,run_eqGuard_int .neq t x y (xv := .bool b) (yv := .bool c) (by simp),Result.andThen_ok,binOp,he]; rfl
 ·cases hr
theorem nilOf_spec {k : NK} {y : Operand} {t : TypeId} (h : nilOf k y = true) (ht : ∀ v,(match k with
  | .ptr => v = Value.pointer none
  | .slice => v = .slice none 0 0
  | .fn => v = .nilFunc
  | .iface => v = .nilIface
  | .map => v = .map none) -> k.fits P t v) : ∃ v,y = .const v /\ k.fits P t v /\ (∀ l,v ≠ .agg l) /\ (v = .nilIface -> True) /\ v.oneCell' = true := by
 unfold nilOf at h
 split at h <;> first | (cases h; done) | exact ⟨_,rfl,ht _ rfl,by simp,fun _ => trivial,rfl⟩
theorem run_eqGuard_const (op : BinOp) (t : TypeId) (x : Operand) {xv v : Value} (h : ∀ l,v ≠ .agg l) : (eqGuard op t x (.const v) xv v).run P w = .ok () w := by
 cases op <;> first | rfl | skip
 all_goals
  unfold eqGuard
  cases xv <;> cases v <;> first | rfl | exact absurd rfl (h _) | (cases x <;> rfl)
theorem op_isnil (hev : EvOK g lb ev a) (hm : MemR g own LC mem w) (hl : LocR g lb own loc w) (ho : OwnR base own w) {op : BinOp} {t ty : TypeId} {x y : Operand} (hop : o.op = .binOp op t x y ty)
  {x' : Opd} (hx : cOpd x = some x') {k : NK} (hc : cNil k op x' y = some ao) (ht : ∀ v,(match k with
  | .ptr => v = Value.pointer none
  | .slice => v = .slice none 0 0
  | .fn => v = .nilFunc
  | .iface => v = .nilIface
  | .map => v = .map none) -> k.fits P t v)
  (hr : aop ev loc mem callv o.dst ao = some (v,u,m')) : OpOK P base LC g lb own loc w a o v u m' := by
 unfold cNil at hc
 split at hc
 ·rename_i hn
  obtain ⟨nv,rfl,hf,hag,-,h1⟩ := nilOf_spec (P := P) (t := t) hn ht
  have k1 := hev _ _ hx
  have hey : a.eval (.const nv) = nv := rfl
  obtain ⟨xv,hxe⟩ : ∃ xv,a.eval x = xv := ⟨_,rfl⟩
  rw [hxe] at k1
  have hg := fun op => run_eqGuard_const (P := P) (w := w) op t x (xv := xv) hag
  have hbin : ∀ r,isNil k (ev x') = some r -> (binOp .eql t xv nv).run P w = .ok (.bool r) w /\ (binOp .neq t xv nv).run P w = .ok (.bool (!r)) w := by
   intro r hr
   have he := isNil_spec (P := P) (w := w) k1 hr hf
   unfold isNil at hr
   split at hr <;> first | (cases hr; done) | skip
   all_goals
    rename_i hxx
    rw [hxx] at k1
    cases k1 <;> cases nv <;> first
     | (exact absurd rfl (hag _))
     | (cases h1; done)
     | (constructor <;> (simp only [binOp,Sem.run_bind,he,Result.andThen_ok]; rfl))
     | (exfalso; obtain ⟨_,hh⟩ := hf; cases hh; done)
  split at hc
  ·cases hc
   simp only [aop,Option.map_eq_some_iff,Prod.mk.injEq,Bool.false_eq_true,if_false] at hr
   obtain ⟨r,hr,rfl,rfl,rfl⟩ := hr
   refine .pure (x := .bool r) hm hl ho ?_ (.bool _ _)
   simp only [execOp,hop,hxe,hey,Sem.run_bind,hg,Result.andThen_ok,(hbin r hr).1]; rfl
  ·cases hc
   simp only [aop,Option.map_eq_some_iff,Prod.mk.injEq,if_true] at hr
   obtain ⟨r,hr,rfl,rfl,rfl⟩ := hr
   refine .pure (x := .bool (!r)) hm hl ho ?_ (.bool _ _)
   simp only [execOp,hop,hxe,hey,Sem.run_bind,hg,Result.andThen_ok,(hbin r hr).2]; rfl
  ·cases hc
 ·cases hc
theorem op_un (hev : EvOK g lb ev a) (hm : MemR g own LC mem w) (hl : LocR g lb own loc w) (ho : OwnR base own w) {op : UnOp} {t : TypeId} {x : Operand} (hop : o.op = .unOp op t x)
  (hc : copO P esc o = some ao) (hr : aop ev loc mem callv o.dst ao = some (v,u,m')) : OpOK P base LC g lb own loc w a o v u m' := by
 simp only [copO,hop,Option.map_eq_some_iff] at hc
 obtain ⟨x',h1,rfl⟩ := hc
 simp only [aop,Option.map_eq_some_iff,Prod.mk.injEq] at hr
 obtain ⟨r,hr,rfl,rfl,rfl⟩ := hr
 obtain ⟨z,k1,k2⟩ := aUn_spec (P := P) (w := w) (hev _ _ h1) hr
 exact .pure hm hl ho (by simp only [execOp,hop,Sem.run_bind,k1,Result.andThen_ok]; rfl) k2
theorem op_conv (hev : EvOK g lb ev a) (hm : MemR g own LC mem w) (hl : LocR g lb own loc w) (ho : OwnR base own w) {s d : TypeId} {x : Operand} (hop : o.op = .convert s d x)
  (hc : copO P esc o = some ao) (hr : aop ev loc mem callv o.dst ao = some (v,u,m')) : OpOK P base LC g lb own loc w a o v u m' := by
 simp only [copO,hop] at hc
 split at hc
 ·rename_i ds k x' hs hd hx
  cases hc
  simp only [aop,Option.map_eq_some_iff,Prod.mk.injEq] at hr
  obtain ⟨r,hr,rfl,rfl,rfl⟩ := hr
  unfold aConv at hr
  split at hr
  ·rename_i he; cases hr
   rename_i k' n hk
   cases hk
   have k1 := hev _ _ hx
   rw [he] at k1
   cases hxe : a.eval x <;> rw [hxe] at k1 <;> cases k1
   exact .pure hm hl ho (by simp only [execOp,hop,hxe,Sem.run_bind,convert,run_underlying hs,run_underlying hd,Result.andThen_ok]; rfl) (.int _ _ _)
  ·rename_i h _; cases h
  ·rename_i h _; cases h
  ·cases hr
 ·rename_i x' hs hd hx
  cases hc
  simp only [aop,Option.map_eq_some_iff,Prod.mk.injEq] at hr
  obtain ⟨r,hr,rfl,rfl,rfl⟩ := hr
  unfold aConv at hr
  split at hr
  ·rename_i h _; cases h
  ·rename_i he; cases hr
   have k1 := hev _ _ hx
   rw [he] at k1
   cases hxe : a.eval x <;> rw [hxe] at k1 <;> cases k1
   rename_i hb
   exact .pure hm hl ho (by simp only [execOp,hop,hxe,Sem.run_bind,convert,run_underlying hs,run_underlying hd,Result.andThen_ok]; rfl) (.str _ _ _ hb)
  ·rename_i h _; cases h
  ·cases hr
 ·rename_i k x' hs hd hx
  cases hc
  simp only [aop,Option.map_eq_some_iff,Prod.mk.injEq] at hr
  obtain ⟨r,hr,rfl,rfl,rfl⟩ := hr
  unfold aConv at hr
  split at hr
  ·rename_i h _; cases h
  ·rename_i h _; cases h
  ·rename_i he; cases hr
   have k1 := hev _ _ hx
   rw [he] at k1
   cases hxe : a.eval x <;> rw [hxe] at k1 <;> cases k1
   exact .pure hm hl ho (by simp only [execOp,hop,hxe,Sem.run_bind,convert,run_underlying hs,run_underlying hd,Result.andThen_ok]; rfl) (.str _ _ _ rfl)
  ·cases hr
 ·cases hc
theorem op_mkif (hev : EvOK g lb ev a) (hm : MemR g own LC mem w) (hl : LocR g lb own loc w) (ho : OwnR base own w) {t : TypeId} {x : Operand} (hop : o.op = .makeInterface t x)
  (hc : copO P esc o = some ao) (hr : aop ev loc mem callv o.dst ao = some (v,u,m')) : OpOK P base LC g lb own loc w a o v u m' := by
 simp only [copO,hop] at hc
 split at hc
 ·cases hc
 ·rename_i d x' hni hu hx
  cases hc
  simp only [aop,Option.some.injEq,Prod.mk.injEq] at hr
  obtain ⟨rfl,rfl,rfl⟩ := hr
  refine .pure hm hl ho (x := .iface t (a.eval x)) ?_ (.iface _ _ _ _ (hev _ _ hx))
  have hcon : P.concrete t = true := by
   unfold Program.concrete
   rw [hu]
   cases d <;> first | rfl | exact absurd rfl (hni _)
  simp only [execOp,hop,Sem.run_bind,run_makeInterface w t _ hcon,Result.andThen_ok]; rfl
 ·cases hc
theorem op_mkfn (hev : EvOK g lb ev a) (hm : MemR g own LC mem w) (hl : LocR g lb own loc w) (ho : OwnR base own w) {f : Fn} {x y : Array Operand} (hop : o.op = .makeFunc f x y)
  (hc : copO P esc o = some ao) (hr : aop ev loc mem callv o.dst ao = some (v,u,m')) : OpOK P base LC g lb own loc w a o v u m' := by
 cases f <;> simp only [copO,hop] at hc <;> first | (cases hc; done) | skip
 rename_i f
 split at hc
 ·rename_i x' y' hx hy
  cases hc
  simp only [aop,Option.some.injEq,Prod.mk.injEq] at hr
  obtain ⟨rfl,rfl,rfl⟩ := hr
  have k1 := evs_spec hev hx
  have k2 := evs_spec hev hy
  refine .pure hm hl ho (x := .func (.func f) (x.map a.eval) (y.map a.eval)) (by simp only [execOp,hop]; rfl) ?_
  refine .fn _ _ _ _ _ _ _ (by simpa using k1.1.symm) (by simpa using k2.1.symm) rfl (fun i hi hi' => ?_) (fun i hi hi' => ?_)
  ·have := k1.2 i hi (by simpa using hi')
   simpa using this
  ·have := k2.2 i hi (by simpa using hi')
   simpa using this
 ·cases hc
theorem tyField_spec {s f off : Nat} {t : TypeId} (h : tyField P s f = some (off,t)) : ∃ fields fd,P.underlying s = some (.struct fields) /\ fields[f]? = some fd /\ fd.offset = off /\ fd.type = t := by
 unfold tyField at h
 split at h
 ·rename_i fields hu
  split at h
  ·rename_i fd hf
   simp only [Option.some.injEq,Prod.mk.injEq] at h
   exact ⟨fields,fd,hu,hf,h.1,h.2⟩
  ·cases h
 ·cases h
theorem op_fa (hev : EvOK g lb ev a) (hm : MemR g own LC mem w) (hl : LocR g lb own loc w) (ho : OwnR base own w) {s : TypeId} {x : Operand} {f : Nat} (hop : o.op = .fieldAddr s x f)
  (hc : copO P esc o = some ao) (hr : aop ev loc mem callv o.dst ao = some (v,u,m')) : OpOK P base LC g lb own loc w a o v u m' := by
 simp only [copO,hop] at hc
 split at hc
 ·rename_i off t x' hf hx
  split at hc
  ·rename_i n hn
   cases hc
   simp only [aop,Option.map_eq_some_iff,Prod.mk.injEq] at hr
   obtain ⟨r,hr,rfl,rfl,rfl⟩ := hr
   obtain ⟨ad,k1,k2⟩ := padd_spec (hev _ _ hx) hr
   obtain ⟨fields,fd,q1,q2,rfl,rfl⟩ := tyField_spec hf
   obtain ⟨s1,s2,-⟩ := tySz_spec (P := P) (w := w) hn
   refine .pure hm hl ho ?_ k2
   simp only [execOp,hop,k1,Sem.run_bind,Instr.fieldAt,run_underlying q1,Result.andThen_ok,q2,Instr.sureAddr,Sem.run_pure,fieldPlace,s1]
   rw [if_neg (by omega)]
   rfl
  ·cases hc
 ·cases hc
theorem op_fld (hev : EvOK g lb ev a) (hm : MemR g own LC mem w) (hl : LocR g lb own loc w) (ho : OwnR base own w) {s : TypeId} {x : Operand} {f : Nat} (hop : o.op = .field s x f)
  (hc : copO P esc o = some ao) (hr : aop ev loc mem callv o.dst ao = some (v,u,m')) : OpOK P base LC g lb own loc w a o v u m' := by
 simp only [copO,hop] at hc
 split at hc
 ·rename_i off t x' hf hx
  split at hc
  ·rename_i n ag hn hag
   cases hc
   simp only [aop] at hr
   split at hr
   ·rename_i l he
    split at hr
    ·rename_i hle
     simp only [Option.map_eq_some_iff,Prod.mk.injEq] at hr
     obtain ⟨r,hr,rfl,rfl,rfl⟩ := hr
     have k1 := hev _ _ hx
     rw [he] at k1
     obtain ⟨fields,fd,q1,q2,rfl,rfl⟩ := tyField_spec hf
     cases hxe : a.eval x <;> rw [hxe] at k1 <;> (try cases k1; done)
     obtain ⟨z,e1,e2⟩ := part_spec (P := P) (w := w) k1 hle (tyAg_spec hag) (tySz_spec hn).1 hr
     refine .pure hm hl ho ?_ e2
     simp only [execOp,hop,hxe,Sem.run_bind,Instr.field,run_underlying q1,Result.andThen_ok,q2,asAgg,Sem.run_pure,e1]
    ·cases hr
   ·cases hr
  ·cases hc
 ·cases hc
end
end Go.Abs
