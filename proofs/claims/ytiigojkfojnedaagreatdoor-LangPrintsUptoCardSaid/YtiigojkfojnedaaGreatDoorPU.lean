/- A text of this proof. -/
import Derived.Test.YtiigojkfojnedaaGreatDoorPT
set_option linter.unusedVariables false
set_option linter.unusedSimpArgs false
namespace Go.Abs
def AO.opds : AO -> List Opd
 | .bad => []
 | .mv x => [x]
 | .pick c a b => [c,a,b]
 | .alloc _ _ => []
 | .abld _ _ => []
 | .box _ _ x => [x]
 | .build _ parts => parts.map (·.2.2)
 | .bslice _ _ xs => xs
 | .ld _ _ a => [a]
 | .st _ a x => [a,x]
 | .nilck x => [x]
 | .bin _ x y => [x,y]
 | .eqs _ _ x y => [x,y]
 | .eqb _ x y => [x,y]
 | .isnil _ _ x => [x]
 | .un _ x => [x]
 | .conv _ x => [x]
 | .mkif _ x => [x]
 | .mkfn _ a b => a ++ b
 | .fa _ x => [x]
 | .fld _ _ _ x => [x]
 | .ia _ x i => [x,i]
 | .iaa _ _ x i => [x,i]
 | .ixa _ _ _ x i => [x,i]
 | .ixs x i => [x,i]
 | .lookup _ _ _ m k => [m,k]
 | .mapup _ m k v => [m,k,v]
 | .mkmap => []
 | .slc _ x lo hi mx => x :: (lo.toList ++ hi.toList ++ mx.toList)
 | .slcs x lo hi => x :: (lo.toList ++ hi.toList)
 | .ext x _ => [x]
 | .call f args => f :: args
 | .app _ _ _ _ x y => [x,y]
 | .len x => [x]
 | .lens x => [x]
 | .lenm x => [x]
 | .lenc _ => []
 | .mkslc _ _ _ n c => [n,c]
 | .cpy _ x y => [x,y]
 | .clr _ x => [x]
 | .del _ m k => [m,k]
 | .max x y => [x,y]
 | .min x y => [x,y]
 | .rng x => [x]
 | .nxt x => [x]
def Opd.tmp? : Opd -> Option Nat
 | .t n => some n
 | _ => none
def AOp.uses (o : AOp) : List Nat := o.op.opds.filterMap Opd.tmp? ++ o.guard.toList.map (·.1)
theorem bound_congr {ev ev' : Opd -> AV} {top : Nat} {x : Option Opd} {d : Nat} (h : ∀ y ∈ x.toList,ev y = ev' y) : bound ev top x d = bound ev' top x d := by
 cases x with
 | none => rfl
 | some y => simp only [bound,h y (by simp)]
theorem fills_congr {ev ev' : Opd -> AV} {l : List (Nat × Nat × Opd)} {cs : List AV} (h : ∀ y ∈ l.map (·.2.2),ev y = ev' y) : fills ev l cs = fills ev' l cs := by
 induction l generalizing cs with
 | nil => rfl
 | cons p l ih =>
  obtain ⟨off,size,x⟩ := p
  simp only [List.map_cons,List.mem_cons,forall_eq_or_imp] at h
  simp only [fills,h.1]
  split
  ·exact ih h.2
  ·rfl
theorem aop_congr {ev ev' : Opd -> AV} {lk mem callv dst} {o : AO} (h : ∀ x ∈ o.opds,ev x = ev' x) : aop ev lk mem callv dst o = aop ev' lk mem callv dst o := by
 cases o with
 | build z parts => simp only [aop,fills_congr (ev := ev) (ev' := ev') h]
 | bslice ag sz xs =>
  have h1 : (xs.all fun x => shaped ag sz (ev x)) = xs.all fun x => shaped ag sz (ev' x) := by
   rw [Bool.eq_iff_iff]; simp only [List.all_eq_true]
   exact forall_congr' fun x => forall_congr' fun hx => by rw [h x hx]
  have h2 : (xs.map fun x => mem.nol (ev x)) = xs.map fun x => mem.nol (ev' x) := List.map_congr_left fun x hx => by rw [h x hx]
  simp only [aop,h1,h2]
 | mkfn f a b =>
  have h1 : a.map ev = a.map ev' := List.map_congr_left fun x hx => h x (List.mem_append_left _ hx)
  have h2 : b.map ev = b.map ev' := List.map_congr_left fun x hx => h x (List.mem_append_right _ hx)
  simp only [aop,h1,h2]
 | call f args =>
  have h1 : args.map ev = args.map ev' := List.map_congr_left fun x hx => h x (List.mem_cons_of_mem _ hx)
  have h2 := h f (by simp [AO.opds])
  simp only [aop,h1,h2]
 | slc sz x lo hi mx =>
  have h2 := h x (by simp [AO.opds])
  have h3 := fun top d => bound_congr (top := top) (d := d) (x := lo) (ev := ev) (ev' := ev') fun y hy => h y (by simp only [AO.opds,List.mem_cons,List.mem_append]; exact .inr (.inl (.inl hy)))
  have h4 := fun top d => bound_congr (top := top) (d := d) (x := hi) (ev := ev) (ev' := ev') fun y hy => h y (by simp only [AO.opds,List.mem_cons,List.mem_append]; exact .inr (.inl (.inr hy)))
  have h5 := fun top d => bound_congr (top := top) (d := d) (x := mx) (ev := ev) (ev' := ev') fun y hy => h y (by simp only [AO.opds,List.mem_cons,List.mem_append]; exact .inr (.inr hy))
  simp only [aop,h2,h3,h4,h5]
 | slcs x lo hi =>
  have h2 := h x (by simp [AO.opds])
  have h3 := fun top d => bound_congr (top := top) (d := d) (x := lo) (ev := ev) (ev' := ev') fun y hy => h y (by simp only [AO.opds,List.mem_cons,List.mem_append]; exact .inr (.inl hy))
  have h4 := fun top d => bound_congr (top := top) (d := d) (x := hi) (ev := ev) (ev' := ev') fun y hy => h y (by simp only [AO.opds,List.mem_cons,List.mem_append]; exact .inr (.inr hy))
  simp only [aop,h2,h3,h4]
 | _ =>
  simp only [AO.opds,List.mem_cons,List.not_mem_nil,or_false,forall_eq_or_imp,forall_eq,false_imp_iff,implies_true] at h
  simp only [aop,h]
inductive Cls
 | quiet
 | load
 | new (d : Nat)
 | call
 | eff (st : Bool)
 deriving DecidableEq
def AOp.cls (o : AOp) : Cls :=
 match o.op with
 | .alloc false _ | .box false _ _ | .rng _ => match o.dst with
  | some d => .new d
  | none => .eff false
 | .ld _ _ _ => .load
 | .call _ _ | .app _ _ _ _ _ _ | .alloc true _ | .box true _ _ | .abld _ _ => .call
 | .st _ _ _ => .eff true
 | .bad | .lookup _ _ _ _ _ | .lenm _ | .mapup _ _ _ _ | .del _ _ _ | .mkmap | .mkslc _ _ _ _ _ | .cpy _ _ _ | .clr _ _ | .nxt _ => .eff false
 | _ => .quiet
inductive Res
 | env (t : Nat)
 | loc (d : Nat)
 | mem
 deriving DecidableEq
def agree : Res -> St -> St -> Prop
 | .env t,s,s' => getE s.env t = getE s'.env t
 | .loc d,s,s' => lget s.loc d = lget s'.loc d
 | .mem,s,s' => s.mem = s'.mem
theorem agree_refl (r : Res) (s : St) : agree r s s := by cases r <;> rfl
theorem agree_symm {r : Res} {s s' : St} (h : agree r s s') : agree r s' s := by cases r <;> exact Eq.symm h
theorem agree_trans {r : Res} {s s' s'' : St} (h : agree r s s') (k : agree r s' s'') : agree r s s'' := by cases r <;> exact Eq.trans h k
def wrR (o : AOp) : Res -> Prop
 | .env t => o.dst = some t
 | .loc d => o.cls = .new d \/ ∃ b,o.cls = .eff b
 | .mem => o.cls = .call \/ ∃ b,o.cls = .eff b
def rdR (o : AOp) : Res -> Prop
 | .env t => t ∈ o.uses
 | .loc d => o.cls = .new d \/ ∃ b,o.cls = .eff b
 | .mem => o.cls = .call \/ ∃ b,o.cls = .eff b
theorem quiet_spec {o : AOp} (hc : o.cls = .quiet) {ev : Opd -> AV} {lk mem callv v u m} (h : aop ev lk mem callv o.dst o.op = some (v,u,m)) :
  u = none /\ m = mem /\ ∀ lk' mem',aop ev lk' mem' callv o.dst o.op = some (v,none,mem') := by
 obtain ⟨dst,op,gd⟩ := o
 cases op with
 | alloc g z => cases g <;> cases dst <;> simp [AOp.cls] at hc
 | box g n x => cases g <;> cases dst <;> simp [AOp.cls] at hc
 | rng x => cases dst <;> simp [AOp.cls] at hc
 | bad => simp [AOp.cls] at hc
 | ld => simp [AOp.cls] at hc
 | st => simp [AOp.cls] at hc
 | call => simp [AOp.cls] at hc
 | app => simp [AOp.cls] at hc
 | abld => simp [AOp.cls] at hc
 | lookup => simp [AOp.cls] at hc
 | lenm => simp [AOp.cls] at hc
 | mapup => simp [AOp.cls] at hc
 | del => simp [AOp.cls] at hc
 | mkmap => simp [AOp.cls] at hc
 | nxt => simp [AOp.cls] at hc
 | mkslc => simp [AOp.cls] at hc
 | cpy => simp [AOp.cls] at hc
 | clr => simp [AOp.cls] at hc
 | max x y =>
  simp only [aop] at h ⊢
  split at h
  ·rename_i h1 h2
   split at h
   ·rename_i h3
    simp only [Prod.mk.injEq,Option.some.injEq] at h
    obtain ⟨rfl,rfl,rfl⟩ := h
    refine ⟨rfl,rfl,fun _ _ => ?_⟩
    rw [if_pos h3]
   ·cases h
  ·cases h
 | min x y =>
  simp only [aop] at h ⊢
  split at h
  ·rename_i h1 h2
   split at h
   ·rename_i h3
    simp only [Prod.mk.injEq,Option.some.injEq] at h
    obtain ⟨rfl,rfl,rfl⟩ := h
    refine ⟨rfl,rfl,fun _ _ => ?_⟩
    rw [if_pos h3]
   ·cases h
  ·cases h
 | bslice ag sz xs =>
  simp only [aop] at h ⊢
  split at h
  ·rename_i hx
   simp only [Option.some.injEq,Prod.mk.injEq] at h
   obtain ⟨rfl,rfl,rfl⟩ := h
   refine ⟨rfl,rfl,fun _ _ => ?_⟩
   rw [if_pos hx]; rfl
  ·cases h
 | _ =>
  simp only [aop] at h ⊢
  repeat' split at h
  all_goals first | (cases h; done) | skip
  all_goals (try simp only [Option.map_eq_some_iff,Prod.mk.injEq,Option.some.injEq] at h)
  all_goals first
   | (obtain ⟨rfl,rfl,rfl⟩ := h; refine ⟨rfl,rfl,fun _ _ => ?_⟩; simp_all; done)
   | (obtain ⟨x,hx,rfl,rfl,rfl⟩ := h; refine ⟨rfl,rfl,fun _ _ => ?_⟩; simp_all; done)
   | skip
theorem call_spec {o : AOp} (hc : o.cls = .call) {ev : Opd -> AV} {lk mem callv v u m} (h : aop ev lk mem callv o.dst o.op = some (v,u,m)) :
  u = none /\ ∀ lk',aop ev lk' mem callv o.dst o.op = some (v,none,m) := by
 obtain ⟨dst,op,gd⟩ := o
 cases op with
 | alloc g z =>
  cases g with
  | false => cases dst <;> simp [AOp.cls] at hc
  | true =>
   simp only [aop,newVar,if_true,Option.some.injEq,Prod.mk.injEq] at h ⊢
   obtain ⟨rfl,rfl,rfl⟩ := h
   exact ⟨rfl,fun _ => by simp⟩
 | box g n x =>
  cases g with
  | false => cases dst <;> simp [AOp.cls] at hc
  | true =>
   simp only [aop,newVar,if_true] at h ⊢
   split at h
   ·rename_i hn
    simp only [Option.some.injEq,Prod.mk.injEq] at h
    obtain ⟨rfl,rfl,rfl⟩ := h
    exact ⟨rfl,fun _ => by rw [if_pos hn]⟩
   ·cases h
 | rng x => cases dst <;> simp [AOp.cls] at hc
 | abld T e =>
  simp only [aop,Option.some.injEq,Prod.mk.injEq] at h ⊢
  obtain ⟨rfl,rfl,rfl⟩ := h
  exact ⟨rfl,fun _ => by simp⟩
 | call f args =>
  simp only [aop,Option.map_eq_some_iff,Prod.mk.injEq,Prod.exists] at h
  obtain ⟨a,b,h1,rfl,rfl,rfl⟩ := h
  exact ⟨rfl,fun _ => by simp only [aop,h1,Option.map_some]⟩
 | app ag sz bytes e x y =>
  simp only [aop,Option.map_eq_some_iff,Prod.mk.injEq,Prod.exists] at h
  obtain ⟨a,b,h1,rfl,rfl,rfl⟩ := h
  exact ⟨rfl,fun _ => by simp only [aop,h1,Option.map_some]⟩
 | _ => simp [AOp.cls] at hc
theorem new_spec {o : AOp} {d : Nat} (hc : o.cls = .new d) {ev : Opd -> AV} {lk mem callv v u m} (h : aop ev lk mem callv o.dst o.op = some (v,u,m)) :
  o.dst = some d /\ m = mem /\ (∃ x,u = some (d,x)) /\ ∀ lk' mem',lk' d = lk d -> aop ev lk' mem' callv o.dst o.op = some (v,u,mem') := by
 obtain ⟨dst,op,gd⟩ := o
 have hv : ∀ (lk' : Nat -> Option (Nat × Blk)),lk' d = lk d -> newVer lk' d = newVer lk d := fun lk' h => by simp only [newVer,h]
 cases op with
 | alloc g z =>
  cases g <;> cases dst <;> simp [AOp.cls] at hc
  subst hc
  simp only [aop,newVar,Bool.false_eq_true,if_false,Option.some.injEq,Prod.mk.injEq] at h ⊢
  obtain ⟨rfl,rfl,rfl⟩ := h
  refine ⟨trivial,rfl,⟨_,rfl⟩,fun lk' mem' hl => ?_⟩
  rw [hv lk' hl]; simp
 | box g n x =>
  cases g <;> cases dst <;> simp [AOp.cls] at hc
  subst hc
  simp only [aop,newVar,Bool.false_eq_true,if_false] at h ⊢
  split at h
  ·rename_i hn
   simp only [Option.some.injEq,Prod.mk.injEq] at h
   obtain ⟨rfl,rfl,rfl⟩ := h
   refine ⟨trivial,rfl,⟨_,rfl⟩,fun lk' mem' hl => ?_⟩
   rw [hv lk' hl,if_pos hn]
  ·cases h
 | rng x =>
  cases dst <;> simp [AOp.cls] at hc
  subst hc
  simp only [aop] at h ⊢
  split at h
  ·rename_i s d' hx hd
   cases hd
   simp only [Option.some.injEq,Prod.mk.injEq] at h
   obtain ⟨rfl,rfl,rfl⟩ := h
   refine ⟨trivial,rfl,⟨_,rfl⟩,fun lk' mem' hl => ?_⟩
   rw [hv lk' hl]
  ·cases h
 | _ => simp [AOp.cls] at hc
theorem load_spec {o : AOp} (hc : o.cls = .load) : ∃ ag n a,o.op = .ld ag n a := by
 obtain ⟨dst,op,gd⟩ := o
 cases op with
 | alloc g z => cases g <;> cases dst <;> simp [AOp.cls] at hc
 | box g n x => cases g <;> cases dst <;> simp [AOp.cls] at hc
 | rng x => cases dst <;> simp [AOp.cls] at hc
 | ld ag n a => exact ⟨_,_,_,rfl⟩
 | _ => simp [AOp.cls] at hc
def LdOK (gl : Nat -> AV) (o : AOp) (s S : St) : Prop :=
 ∀ ag n a,o.op = .ld ag n a -> wantedA S.env o.guard ≠ some false -> rd (lget s.loc) s.mem (evO gl S.env a) n = rd (lget S.loc) S.mem (evO gl S.env a) n
theorem wantedA_congr {env env' : List AV} {gd : Option (Nat × Bool)} (h : ∀ t ∈ gd.toList.map (·.1),getE env t = getE env' t) : wantedA env gd = wantedA env' gd := by
 cases gd with
 | none => rfl
 | some p => simp only [wantedA]; rw [h p.1 (by simp)]
theorem evO_congr {gl : Nat -> AV} {env env' : List AV} {l : List Opd} (h : ∀ t ∈ l.filterMap Opd.tmp?,getE env t = getE env' t) : ∀ x ∈ l,evO gl env x = evO gl env' x := by
 intro x hx
 cases x with
 | t n => exact h n (List.mem_filterMap.2 ⟨_,hx,rfl⟩)
 | c v => rfl
 | g n => rfl
theorem astep_sync {gl : Nat -> AV} {callv : CallV} {o : AOp} {s S S1 : St} (hst : astep gl callv o S = some S1) (hrd : ∀ r,rdR o r -> agree r s S) (hld : LdOK gl o s S) :
  ∃ s1,astep gl callv o s = some s1 /\ (∀ r,wrR o r -> agree r s1 S1) /\ ∀ r,¬wrR o r -> agree r s1 s /\ agree r S1 S := by
 have hu : ∀ t ∈ o.uses,getE s.env t = getE S.env t := fun t ht => hrd (.env t) ht
 have hw : wantedA s.env o.guard = wantedA S.env o.guard := wantedA_congr fun t ht => hu t (List.mem_append_right _ ht)
 have hev : ∀ x ∈ o.op.opds,evO gl s.env x = evO gl S.env x := evO_congr fun t ht => hu t (List.mem_append_left _ ht)
 unfold astep at hst ⊢
 rw [hw]
 split at hst
 ·cases hst
 ·rename_i hwt
  split at hst
  ·rename_i v u m he
   cases hst
   have fin : ∀ (u' : Upd) (m' : Mem),(∀ r,wrR o r -> r = .mem -> m' = m) -> (∀ d,wrR o (.loc d) -> lget (setU s.loc u') d = lget (setU S.loc u) d) →
     (¬wrR o .mem -> m' = s.mem /\ m = S.mem) -> (∀ d,¬wrR o (.loc d) -> lget (setU s.loc u') d = lget s.loc d /\ lget (setU S.loc u) d = lget S.loc d) →
     (∀ r,wrR o r -> agree r ({ env := setO s.env o.dst v,loc := setU s.loc u',mem := m' } : St) { env := setO S.env o.dst v,loc := setU S.loc u,mem := m }) ∧
     ∀ r,¬wrR o r -> agree r ({ env := setO s.env o.dst v,loc := setU s.loc u',mem := m' } : St) s /\ agree r ({ env := setO S.env o.dst v,loc := setU S.loc u,mem := m } : St) S := by
    intro u' m' h1 h2 h3 h4
    refine ⟨fun r hr => ?_,fun r hr => ?_⟩
    ·cases r with
     | env t => simp only [agree]; rw [getE_setO,getE_setO,if_pos (show o.dst = some t from hr),if_pos (show o.dst = some t from hr)]
     | loc d => exact h2 d hr
     | mem => exact h1 _ hr rfl
    ·cases r with
     | env t =>
      have hr : ¬o.dst = some t := hr
      simp only [agree]; rw [getE_setO,getE_setO,if_neg hr,if_neg hr]; exact ⟨rfl,rfl⟩
     | loc d => exact h4 d hr
     | mem => exact h3 hr
   rw [aop_congr hev]
   cases hc : o.cls with
   | quiet =>
    obtain ⟨rfl,rfl,k⟩ := quiet_spec hc he
    refine ⟨_,by rw [k],fin none s.mem (fun r hr he => ?_) (fun d hr => ?_) (fun _ => ⟨rfl,rfl⟩) (fun _ _ => ⟨rfl,rfl⟩)⟩
    ·subst he; simp [wrR,hc] at hr
    ·simp [wrR,hc] at hr
   | load =>
    obtain ⟨ag,n,a,hop⟩ := load_spec hc
    have hl := hld ag n a hop (by rw [hwt]; simp)
    simp only [hop,aop] at he ⊢
    rw [hl]
    split at he
    ·rename_i l hl'
     simp only [Option.map_eq_some_iff,Prod.mk.injEq] at he
     obtain ⟨x,hx,rfl,rfl,rfl⟩ := he
     refine ⟨_,by simp only [hx,Option.map_some],fin none s.mem (fun r hr he => ?_) (fun d hr => ?_) (fun _ => ⟨rfl,rfl⟩) (fun _ _ => ⟨rfl,rfl⟩)⟩
     ·subst he; simp [wrR,hc] at hr
     ·simp [wrR,hc] at hr
    ·cases he
   | new d =>
    obtain ⟨hd,rfl,⟨x,rfl⟩,k⟩ := new_spec hc he
    have hl : lget s.loc d = lget S.loc d := hrd (.loc d) (.inl hc)
    refine ⟨_,by rw [k _ s.mem hl],fin (some (d,x)) s.mem (fun r hr he => ?_) (fun d' hr => ?_) (fun _ => ⟨rfl,rfl⟩) (fun d' hr => ?_)⟩
    ·subst he; simp [wrR,hc] at hr
    ·simp only [wrR,hc,Cls.new.injEq,reduceCtorEq,exists_const,or_false] at hr
     subst hr
     obtain ⟨v',b⟩ := x
     simp only [setU,lget_lset,if_true]
    ·have hne : d ≠ d' := fun h => hr (.inl (by rw [hc,h]))
     obtain ⟨v',b⟩ := x
     simp only [setU,lget_lset,if_neg hne]; exact ⟨trivial,trivial⟩
   | call =>
    obtain ⟨rfl,k⟩ := call_spec hc he
    have hm : s.mem = S.mem := hrd .mem (.inl hc)
    refine ⟨_,by rw [hm,k],fin none m (fun _ _ _ => rfl) (fun d hr => ?_) (fun hr => absurd (.inl hc) hr) (fun _ _ => ⟨rfl,rfl⟩)⟩
    simp [wrR,hc] at hr
   | eff b0 =>
    have hm : s.mem = S.mem := hrd .mem ((.inr ⟨_,hc⟩))
    have hl : lget s.loc = lget S.loc := funext fun d => hrd (.loc d) ((.inr ⟨_,hc⟩))
    refine ⟨_,by rw [hm,hl,he],fin u m (fun _ _ _ => rfl) (fun d hr => ?_) (fun hr => absurd (.inr ⟨_,hc⟩) hr) (fun d hr => absurd (.inr ⟨_,hc⟩) hr)⟩
    rw [lget_setU,lget_setU,hl]
  ·cases hst
 ·cases hst
  refine ⟨_,rfl,fun r hr => ?_,fun r hr => ?_⟩
  ·cases r with
   | env t => simp only [agree]; rw [getE_setO,getE_setO,if_pos (show o.dst = some t from hr),if_pos (show o.dst = some t from hr)]
   | loc d => exact hrd (.loc d) hr
   | mem => exact hrd .mem hr
  ·cases r with
   | env t =>
    have hr : ¬o.dst = some t := hr
    simp only [agree]; rw [getE_setO,getE_setO,if_neg hr,if_neg hr]; exact ⟨rfl,rfl⟩
   | loc d => exact ⟨rfl,rfl⟩
   | mem => exact ⟨rfl,rfl⟩
end Go.Abs
namespace Go.Abs
def ins (x : Nat) (l : List Nat) : List Nat := if l.contains x then l else x :: l
theorem mem_ins {x y : Nat} {l : List Nat} (h : y ∈ ins x l) : y = x \/ y ∈ l := by
 unfold ins at h
 split at h
 ·exact .inr h
 ·simpa using h
def insAll (m l : List Nat) : List Nat := m.foldr ins l
theorem mem_insAll {y : Nat} {m l : List Nat} (h : y ∈ insAll m l) : y ∈ m \/ y ∈ l := by
 induction m with
 | nil => exact .inr h
 | cons a m ih =>
  rcases mem_ins h with rfl | h
  ·exact .inl (by simp)
  ·rcases ih h with h | h
   ·exact .inl (by simp [h])
   ·exact .inr h
def predOf (acc : List (List Nat)) : List Edge -> List Nat
 | [] => []
 | e :: l => if Region.binds .any e then ins e.on (insAll (acc.getD e.on []) (predOf acc l)) else predOf acc l
theorem mem_predOf {acc : List (List Nat)} {es : List Edge} {j : Nat} (h : j ∈ predOf acc es) : ∃ e ∈ es,Region.binds .any e = true /\ (j = e.on \/ j ∈ acc.getD e.on []) := by
 induction es with
 | nil => cases h
 | cons e l ih =>
  simp only [predOf] at h
  have tail : j ∈ predOf acc l -> ∃ e' ∈ e :: l,Region.binds .any e' = true /\ (j = e'.on \/ j ∈ acc.getD e'.on []) := fun h => by
   obtain ⟨e',h1,h2⟩ := ih h
   exact ⟨e',List.mem_cons_of_mem _ h1,h2⟩
  split at h
  ·rename_i hb
   rcases mem_ins h with h | h
   ·exact ⟨e,by simp,hb,.inl h⟩
   ·rcases mem_insAll h with h | h
    ·exact ⟨e,by simp,hb,.inr h⟩
    ·exact tail h
  ·exact tail h
def predsGo : List Oper -> List (List Nat) -> List (List Nat)
 | [],acc => acc
 | o :: l,acc => predsGo l (acc ++ [predOf acc o.after.toList])
def edgesGo : List Oper -> Nat -> Bool
 | [],_ => true
 | o :: l,i => (o.after.toList.all fun e => !Region.binds .any e || decide (e.on < i)) && edgesGo l (i + 1)
theorem predsGo_spec (l : List Oper) (acc : List (List Nat)) : ∃ rest,predsGo l acc = acc ++ rest /\ rest.length = l.length := by
 induction l generalizing acc with
 | nil => exact ⟨[],by simp [predsGo],rfl⟩
 | cons o l ih =>
  obtain ⟨rest,h1,h2⟩ := ih (acc ++ [predOf acc o.after.toList])
  exact ⟨predOf acc o.after.toList :: rest,by simp [predsGo,h1],by simp [h2]⟩
theorem predsGo_at (l : List Oper) (acc : List (List Nat)) (i : Nat) (o : Oper) (h : l[i]? = some o) (he : edgesGo l acc.length = true) (j : Nat)
  (hj : j ∈ (predsGo l acc).getD (acc.length + i) []) :
  ∃ e ∈ o.after,Region.binds .any e = true /\ e.on < acc.length + i /\ (j = e.on \/ j ∈ (predsGo l acc).getD e.on []) := by
 induction l generalizing acc i with
 | nil => simp at h
 | cons o' l ih =>
  simp only [edgesGo,Bool.and_eq_true,List.all_eq_true,Bool.or_eq_true,Bool.not_eq_true',decide_eq_true_eq] at he
  cases i with
  | zero =>
   simp only [List.getElem?_cons_zero,Option.some.injEq] at h
   subst h
   obtain ⟨rest,h1,h2⟩ := predsGo_spec l (acc ++ [predOf acc o'.after.toList])
   have hg : (predsGo (o' :: l) acc).getD (acc.length + 0) [] = predOf acc o'.after.toList := by
    simp only [predsGo,h1]
    simp [List.getD_eq_getElem?_getD]
   rw [hg] at hj
   obtain ⟨e,h3,h4,h5⟩ := mem_predOf hj
   have hlt := (he.1 e h3).resolve_left (by simp [h4])
   refine ⟨e,by simpa using h3,h4,by simpa using hlt,h5.imp id fun h5 => ?_⟩
   have : (predsGo (o' :: l) acc).getD e.on [] = acc.getD e.on [] := by
    simp only [predsGo,h1]
    simp [List.getD_eq_getElem?_getD,List.getElem?_append,hlt]
   rw [this]; exact h5
  | succ i =>
   simp only [List.getElem?_cons_succ] at h
   have := ih (acc ++ [predOf acc o'.after.toList]) i h (by simpa using he.2) (by simpa [predsGo,Nat.add_assoc,Nat.add_comm 1 i] using hj)
   simpa [predsGo,Nat.add_assoc,Nat.add_comm 1 i] using this
def preds (ops : Array Oper) : List (List Nat) := predsGo ops.toList []
theorem preds_at {ops : Array Oper} (he : edgesGo ops.toList 0 = true) {i j : Nat} {o : Oper} (h : ops[i]? = some o) (hj : j ∈ (preds ops).getD i []) :
  ∃ e ∈ o.after,Region.binds .any e = true /\ e.on < i /\ (j = e.on \/ j ∈ (preds ops).getD e.on []) := by
 have := predsGo_at ops.toList [] i o (by simpa using h) he j (by simpa [preds] using hj)
 simpa [preds] using this
theorem edges_at {l : List Oper} {k : Nat} (he : edgesGo l k = true) {i : Nat} {o : Oper} (h : l[i]? = some o) : ∀ e ∈ o.after,Region.binds .any e = true -> e.on < k + i := by
 induction l generalizing k i with
 | nil => simp at h
 | cons o' l ih =>
  simp only [edgesGo,Bool.and_eq_true,List.all_eq_true,Bool.or_eq_true,Bool.not_eq_true',decide_eq_true_eq] at he
  cases i with
  | zero =>
   simp only [List.getElem?_cons_zero,Option.some.injEq] at h
   subst h
   intro e hm hb
   exact (he.1 e (by simpa using hm)).resolve_left (by simp [hb])
  | succ i =>
   simp only [List.getElem?_cons_succ] at h
   intro e hm hb
   have := ih he.2 h e hm hb
   omega
def clsClash : Cls -> Cls -> Bool
 | .quiet,_ => false
 | _,.quiet => false
 | .eff true,.load => false
 | .load,.eff true => false
 | .eff _,_ => true
 | _,.eff _ => true
 | .call,.call => true
 | .new d,.new d' => d == d'
 | _,_ => false
def hits (o o' : AOp) : Bool := match o.dst with
 | some t => o'.dst == some t || o'.uses.contains t
 | none => false
def clash (o o' : AOp) : Bool := clsClash o.cls o'.cls || hits o o' || hits o' o
theorem clash_spec {o o' : AOp} (h : clash o o' = false) : ∀ r,wrR o r -> ¬wrR o' r /\ ¬rdR o' r := by
 intro r hr
 simp only [clash,Bool.or_eq_false_iff] at h
 obtain ⟨⟨h1,h2⟩,h3⟩ := h
 cases r with
 | env t =>
  have hr : o.dst = some t := hr
  simp only [hits,hr,Bool.or_eq_false_iff] at h2
  refine ⟨fun hw => ?_,fun hw => ?_⟩
  ·have hw : o'.dst = some t := hw
   simp [hw] at h2
  ·have hw : t ∈ o'.uses := hw
   simp [hw] at h2
 | loc d =>
  have key : ¬(o'.cls = .new d \/ ∃ b,o'.cls = .eff b) := by
   rintro (hw | ⟨b,hw⟩) <;> rcases hr with hr | ⟨b',hr⟩ <;> simp [hr,hw,clsClash] at h1
  exact ⟨key,key⟩
 | mem =>
  have key : ¬(o'.cls = .call \/ ∃ b,o'.cls = .eff b) := by
   rintro (hw | ⟨b,hw⟩) <;> rcases hr with hr | ⟨b',hr⟩ <;> simp [hr,hw,clsClash] at h1
  exact ⟨key,key⟩
def cmp (pre : List (List Nat)) (i j : Nat) : Bool := (pre.getD j []).contains i || (pre.getD i []).contains j
def drawOK (l : List AOp) (pre : List (List Nat)) : Bool :=
 (List.range l.length).all fun j => (List.range l.length).all fun i => decide (i = j) || cmp pre i j || (match l[i]?,l[j]? with
  | some oi,some oj => !clash oi oj
  | _,_ => true)
def isCls (p : Cls -> Bool) (l : List AOp) (i : Nat) : Bool := match l[i]? with
 | some o => p o.cls
 | none => false
def pairs (l : List AOp) (pre : List (List Nat)) (p q : Cls -> Bool) : List (Nat × Nat) :=
 ((List.range l.length).filter (isCls p l)).flatMap fun i => (((List.range l.length).filter (isCls q l)).filter fun j => !(cmp pre i j)).map fun j => (i,j)
def isLoad : Cls -> Bool
 | .load => true
 | _ => false
def isCall : Cls -> Bool
 | .call => true
 | .eff true => true
 | _ => false
def isNew : Cls -> Bool
 | .new _ => true
 | _ => false
theorem mem_pairs {l : List AOp} {pre : List (List Nat)} {p q : Cls -> Bool} {i j : Nat} {o o' : AOp} (h1 : l[i]? = some o) (h2 : l[j]? = some o') (hp : p o.cls = true) (hq : q o'.cls = true)
  (hc : cmp pre i j = false) : (i,j) ∈ pairs l pre p q := by
 have hi : i < l.length := (List.getElem?_eq_some_iff.1 h1).1
 have hj : j < l.length := (List.getElem?_eq_some_iff.1 h2).1
 simp only [pairs,List.mem_flatMap,List.mem_map,List.mem_filter,List.mem_range,Prod.mk.injEq,isCls]
 exact ⟨i,⟨hi,by simp [h1,hp]⟩,j,⟨⟨hj,by simp [h2,hq]⟩,by simp [hc]⟩,rfl,rfl⟩
mutual
theorem AV.eq_of_beq : ∀ (a b : AV),AV.beq a b = true -> a = b
 | .undef,b,h => by cases b <;> simp [AV.beq] at h; rfl
 | .junk,b,h => by cases b <;> simp [AV.beq] at h; rfl
 | .int k n,b,h => by cases b <;> simp [AV.beq] at h; rw [h.1,h.2]
 | .bool x,b,h => by cases b <;> simp [AV.beq] at h; rw [h]
 | .str s,b,h => by cases b <;> simp [AV.beq] at h; rw [h]
 | .nilp,b,h => by cases b <;> simp [AV.beq] at h; rfl
 | .lptr d v o,b,h => by cases b <;> simp [AV.beq] at h; rw [h.1.1,h.1.2,h.2]
 | .gptr d o,b,h => by cases b <;> simp [AV.beq] at h; rw [h.1,h.2]
 | .ref l,b,h => by cases b <;> simp [AV.beq] at h; rw [AV.eq_of_beqs _ _ h]
 | .sl kd i o n c,b,h => by cases b <;> simp [AV.beq] at h; rw [h.1.1.1.1,h.1.1.1.2,h.1.1.2,h.1.2,h.2]
 | .list c l,b,h => by cases b <;> simp [AV.beq] at h; rw [h.1,AV.eq_of_beqs _ _ h.2]
 | .agg l,b,h => by cases b <;> simp [AV.beq] at h; rw [AV.eq_of_beqs _ _ h]
 | .tup l,b,h => by cases b <;> simp [AV.beq] at h; rw [AV.eq_of_beqs _ _ h]
 | .fn f x y,b,h => by cases b <;> simp [AV.beq] at h; rw [h.1.1,AV.eq_of_beqs _ _ h.1.2,AV.eq_of_beqs _ _ h.2]
 | .nilfn,b,h => by cases b <;> simp [AV.beq] at h; rfl
 | .iface t v,b,h => by cases b <;> simp [AV.beq] at h; rw [h.1,AV.eq_of_beq _ _ h.2]
 | .nilif,b,h => by cases b <;> simp [AV.beq] at h; rfl
 | .map i,b,h => by cases b <;> simp [AV.beq] at h; rw [h]
 | .nilmap,b,h => by cases b <;> simp [AV.beq] at h; rfl
theorem AV.eq_of_beqs : ∀ (a b : List AV),AV.beqs a b = true -> a = b
 | [],b,h => by cases b <;> simp [AV.beqs] at h; rfl
 | x :: l,b,h => by
  cases b with
  | nil => simp [AV.beqs] at h
  | cons y m => simp [AV.beqs] at h; rw [AV.eq_of_beq _ _ h.1,AV.eq_of_beqs _ _ h.2]
end
theorem eqRd_eq {a b : Option (List AV)} (h : eqRd a b = true) : a = b := by
 cases a <;> cases b <;> simp [eqRd] at h
 rw [AV.eq_of_beqs _ _ h]
end Go.Abs
namespace Go.Abs
theorem cOps_len {P : Program} {esc : Nat -> Bool} {N : Nat} {ops : Array Oper} {l : List Oper} {l' : List AOp} (h : cOps P esc N ops l = some l') : l'.length = l.length := by
 induction l generalizing l' with
 | nil => cases h; rfl
 | cons o l ih =>
  simp only [cOps] at h
  split at h
  ·rename_i h1 h2; cases h; simp [ih h2]
  ·cases h
theorem cOps_at {P : Program} {esc : Nat -> Bool} {N : Nat} {ops : Array Oper} {l : List Oper} {l' : List AOp} (h : cOps P esc N ops l = some l') {i : Nat} {o : Oper} (hi : l[i]? = some o) :
  ∃ o',l'[i]? = some o' /\ cOp1 P esc N ops o = some o' := by
 induction l generalizing l' i with
 | nil => simp at hi
 | cons x l ih =>
  simp only [cOps] at h
  split at h
  ·rename_i h1 h2
   cases h
   cases i with
   | zero => simp only [List.getElem?_cons_zero,Option.some.injEq] at hi; subst hi; exact ⟨_,rfl,h1⟩
   | succ i => simp only [List.getElem?_cons_succ] at hi ⊢; exact ih h2 hi
  ·cases h
structure Trace (gl : Nat -> AV) (callv : CallV) (l : List AOp) (T : Nat -> St) : Prop where
 step : ∀ i o,l[i]? = some o -> astep gl callv o (T i) = some (T (i + 1))
theorem ascan_at {gl : Nat -> AV} {callv : CallV} {l : List AOp} {s : St} {tr : List St} (h : ascan gl callv l s = some tr) :
  tr.length = l.length + 1 /\ tr[0]? = some s /\ ∀ i o,l[i]? = some o -> ∃ a b,tr[i]? = some a /\ tr[i + 1]? = some b /\ astep gl callv o a = some b := by
 induction l generalizing s tr with
 | nil => cases h; exact ⟨rfl,rfl,fun i o h => by simp at h⟩
 | cons x l ih =>
  simp only [ascan] at h
  split at h
  ·rename_i s' he
   simp only [Option.map_eq_some_iff] at h
   obtain ⟨t,ht,rfl⟩ := h
   obtain ⟨h1,h2,h3⟩ := ih ht
   refine ⟨by simp [h1],rfl,fun i o ho => ?_⟩
   cases i with
   | zero =>
    simp only [List.getElem?_cons_zero,Option.some.injEq] at ho
    subst ho
    exact ⟨s,s',rfl,by simpa using h2,he⟩
   | succ i =>
    simp only [List.getElem?_cons_succ] at ho ⊢
    exact h3 i o ho
  ·cases h
section
variable {gl : Nat -> AV} {callv : CallV} {l : List AOp} {T : Nat -> St}
theorem Trace.same (hT : Trace gl callv l T) {r : Res} {i : Nat} : ∀ {k : Nat},i <= k -> k <= l.length -> (∀ j o,i <= j -> j < k -> l[j]? = some o -> ¬wrR o r) -> agree r (T k) (T i) := by
 intro k
 induction k with
 | zero => intro h _ _; obtain rfl : i = 0 := (by omega); exact agree_refl _ _
 | succ k ih =>
  intro h hk hn
  rcases Nat.lt_or_ge k i with hlt | hge
  ·obtain rfl : i = k + 1 := by omega
   exact agree_refl _ _
  ·have h1 := ih hge (by omega) fun j o hj hj' => hn j o hj (by omega)
   have hlt : k < l.length := by omega
   have hst := hT.step k l[k] (List.getElem?_eq_getElem hlt)
   obtain ⟨s1,h2,_,h4⟩ := astep_sync (s := T k) hst (fun r _ => agree_refl r _) (fun _ _ _ _ _ => rfl)
   exact agree_trans (h4 r (hn k l[k] hge (by omega) (List.getElem?_eq_getElem hlt))).2 h1
theorem Trace.last (hT : Trace gl callv l T) {r : Res} {i : Nat} : ∀ {k : Nat},i <= k -> k <= l.length →
  agree r (T k) (T i) \/ ∃ j o,i <= j /\ j < k /\ l[j]? = some o /\ wrR o r /\ agree r (T k) (T (j + 1)) := by
 intro k
 induction k with
 | zero => intro h _; obtain rfl : i = 0 := (by omega); exact .inl (agree_refl _ _)
 | succ k ih =>
  intro h hk
  rcases Nat.lt_or_ge k i with hlt | hge
  ·obtain rfl : i = k + 1 := by omega
   exact .inl (agree_refl _ _)
  ·have hlt : k < l.length := by omega
   have ho : l[k]? = some l[k] := List.getElem?_eq_getElem hlt
   by_cases hw : wrR l[k] r
   ·exact .inr ⟨k,l[k],hge,by omega,ho,hw,agree_refl _ _⟩
   ·have hst := hT.step k l[k] ho
    obtain ⟨s1,h2,_,h4⟩ := astep_sync (s := T k) hst (fun r _ => agree_refl r _) (fun _ _ _ _ _ => rfl)
    have h5 := (h4 r hw).2
    rcases ih hge (by omega) with h1 | ⟨j,o,k1,k2,k3,k4,k5⟩
    ·exact .inl (agree_trans h5 h1)
    ·exact .inr ⟨j,o,k1,by omega,k3,k4,agree_trans h5 k5⟩
def Inv (l : List AOp) (T : Nat -> St) (listed : Nat -> Prop) (s : St) : Prop :=
 ∀ r k,k <= l.length -> (∀ j o,j < k -> l[j]? = some o -> wrR o r -> listed j) -> (∀ j o,k <= j -> l[j]? = some o -> wrR o r -> ¬listed j) -> agree r s (T k)
structure Orderly (gl : Nat -> AV) (l : List AOp) (T : Nat -> St) (Pre : Nat -> Nat -> Prop) : Prop where
 back : ∀ i j,Pre i j -> i < j
 free : ∀ i j oi oj,l[i]? = some oi -> l[j]? = some oj -> i ≠ j -> ¬Pre i j -> ¬Pre j i -> clash oi oj = false
 cf : ∀ i j oi oj ag n a,l[i]? = some oi -> l[j]? = some oj -> oi.op = .ld ag n a -> (oj.cls = .call \/ oj.cls = .eff true) -> ¬Pre i j -> ¬Pre j i -> wantedA (T i).env oi.guard ≠ some false →
  ∀ id off,evO gl (T i).env a = .gptr id off -> rd (fun _ => none) (T j).mem (.gptr id off) n = rd (fun _ => none) (T i).mem (.gptr id off) n ∧
   rd (fun _ => none) (T (j + 1)).mem (.gptr id off) n = rd (fun _ => none) (T i).mem (.gptr id off) n
 sf : ∀ i j oi oj ag n a,l[i]? = some oi -> l[j]? = some oj -> oi.op = .ld ag n a -> oj.cls = .eff true -> ¬Pre i j -> ¬Pre j i -> wantedA (T i).env oi.guard ≠ some false →
  ∀ d v off,evO gl (T i).env a = .lptr d v off -> rd (lget (T j).loc) (T j).mem (.lptr d v off) n = rd (lget (T i).loc) (T i).mem (.lptr d v off) n ∧
   rd (lget (T (j + 1)).loc) (T (j + 1)).mem (.lptr d v off) n = rd (lget (T i).loc) (T i).mem (.lptr d v off) n
 af : ∀ i j oi oj ag n a d,l[i]? = some oi -> l[j]? = some oj -> oj.op = .ld ag n a -> oi.cls = .new d -> ¬Pre i j -> ¬Pre j i →
  ∀ v off,evO gl (T j).env a = .lptr d v off -> False
theorem cls_ld {o : AOp} {ag n a} (h : o.op = .ld ag n a) : o.cls = .load := by
 obtain ⟨dst,op,gd⟩ := o
 cases h; rfl
theorem new_dst {o : AOp} {d : Nat} (h : o.cls = .new d) : o.dst = some d := by
 obtain ⟨dst,op,gd⟩ := o
 cases op with
 | alloc g z => cases g <;> cases dst <;> simp_all [AOp.cls]
 | box g n x => cases g <;> cases dst <;> simp_all [AOp.cls]
 | rng x => cases dst <;> simp_all [AOp.cls]
 | _ => simp [AOp.cls] at h
theorem orderly_step (hT : Trace gl callv l T) {Pre : Nat -> Nat -> Prop} (hO : Orderly gl l T Pre) {listed : Nat -> Prop} {s : St} (hI : Inv l T listed s)
  (hcl : ∀ i j,Pre i j -> listed j -> listed i) {i : Nat} {o : AOp} (ho : l[i]? = some o) (hun : ¬listed i) (hrdy : ∀ j,Pre j i -> listed j) :
  ∃ s1,astep gl callv o s = some s1 /\ Inv l T (fun j => listed j \/ j = i) s1 := by
 have hi : i < l.length := (List.getElem?_eq_some_iff.1 ho).1
 have side : ∀ r,(∀ j oj,l[j]? = some oj -> wrR oj r -> j ≠ i -> Pre i j \/ Pre j i) -> agree r s (T i) := by
  intro r hr
  refine hI r i (Nat.le_of_lt hi) (fun j oj hj hoj hw => ?_) (fun j oj hj hoj hw hl => ?_)
  ·rcases hr j oj hoj hw (by omega) with h | h
   ·have := hO.back _ _ h; omega
   ·exact hrdy j h
  ·rcases Nat.eq_or_lt_of_le hj with rfl | hlt
   ·exact hun hl
   ·rcases hr j oj hoj hw (by omega) with h | h
    ·exact hun (hcl _ _ h hl)
    ·have := hO.back _ _ h; omega
 have hrd : ∀ r,rdR o r -> agree r s (T i) := by
  intro r hr
  refine side r fun j oj hoj hw hne => ?_
  by_cases h1 : Pre i j
  ·exact .inl h1
  ·by_cases h2 : Pre j i
   ·exact .inr h2
   ·exact absurd hr (clash_spec (hO.free j i oj o hoj ho hne h2 h1) r hw).2
 have look : ∀ {β : Type} (f : St -> β) (r : Res),(∀ s s',agree r s s' -> f s = f s') →
   (∀ j oj,l[j]? = some oj -> wrR oj r -> j ≠ i -> ¬Pre i j -> ¬Pre j i -> f (T j) = f (T i) /\ f (T (j + 1)) = f (T i)) -> f s = f (T i) := by
  intro β f r hf hgood
  have ⟨k,hk,hk1,hk2⟩ : ∃ k,k <= l.length /\ (∀ j oj,j < k -> l[j]? = some oj -> wrR oj r -> listed j) /\ (k = l.length \/ ∃ ok,l[k]? = some ok /\ wrR ok r /\ ¬listed k) := by
   have : ∀ k,k <= l.length -> (∀ j oj,j < k -> l[j]? = some oj -> wrR oj r -> listed j) \/ ∃ m,m < k /\ (∀ j oj,j < m -> l[j]? = some oj -> wrR oj r -> listed j) /\ ∃ ok,l[m]? = some ok /\ wrR ok r /\ ¬listed m := by
    intro k
    induction k with
    | zero => intro _; exact .inl fun j oj hj => by omega
    | succ k ih =>
     intro hk
     rcases ih (by omega) with h | ⟨m,h1,h2⟩
     ·have hok : l[k]? = some l[k] := List.getElem?_eq_getElem (by omega)
      by_cases hx : wrR l[k] r /\ ¬listed k
      ·exact .inr ⟨k,by omega,h,_,hok,hx⟩
      ·refine .inl fun j oj hj hoj hwr => ?_
       rcases Nat.lt_or_ge j k with hlt | hge
       ·exact h j oj hlt hoj hwr
       ·obtain rfl : j = k := by omega
        rw [hok] at hoj; cases hoj
        exact Classical.byContradiction fun hn => hx ⟨hwr,hn⟩
     ·exact .inr ⟨m,by omega,h2⟩
   rcases this l.length (Nat.le_refl _) with h | ⟨m,h1,h2,h3⟩
   ·exact ⟨l.length,Nat.le_refl _,h,.inl rfl⟩
   ·exact ⟨m,Nat.le_of_lt h1,h2,.inr h3⟩
  have hmem : agree r s (T k) := by
   refine hI r k hk hk1 fun j oj hj hoj hwr hl => ?_
   rcases hk2 with rfl | ⟨ok,h1,h2,h3⟩
   ·have := (List.getElem?_eq_some_iff.1 hoj).1; omega
   ·rcases Nat.eq_or_lt_of_le hj with rfl | hlt
    ·exact h3 hl
    ·by_cases g1 : Pre k j
     ·exact h3 (hcl _ _ g1 hl)
     ·by_cases g2 : Pre j k
      ·have := hO.back _ _ g2; omega
      ·exact (clash_spec (hO.free k j ok oj h1 hoj (by omega) g1 g2) r h2).1 hwr
  rw [hf _ _ hmem]
  have ordered : i <= k -> f (T k) = f (T i) := by
   intro hik
   rcases hT.last (r := r) hik hk with h | ⟨j,oj,g1,g2,g3,g4,g5⟩
   ·exact hf _ _ h
   ·rw [hf _ _ g5]
    have hl := hk1 j oj g2 g3 g4
    have hne : j ≠ i := fun h => hun (h ▸ hl)
    have n1 : ¬Pre i j := fun h => hun (hcl _ _ h hl)
    have n2 : ¬Pre j i := fun h => by have := hO.back _ _ h; omega
    exact (hgood j oj g3 g4 hne n1 n2).2
  rcases hk2 with rfl | ⟨ok,h1,h2,h3⟩
  ·exact ordered (Nat.le_of_lt hi)
  ·by_cases g1 : Pre i k
   ·exact ordered (Nat.le_of_lt (hO.back _ _ g1))
   ·by_cases g2 : Pre k i
    ·exact absurd (hrdy k g2) h3
    ·by_cases hki : k = i
     ·exact ordered (by omega)
     ·exact (hgood k ok h1 h2 hki g1 g2).1
 have hld : LdOK gl o s (T i) := by
  intro ag n a hop hw
  cases hp : evO gl (T i).env a with
  | lptr d v off =>
   refine look (fun s => rd (lget s.loc) s.mem (.lptr d v off) n) (.loc d) (fun s s' h => ?_) fun j oj hoj hwr hne n1 n2 => ?_
   ·simp only [rd]
    rw [show lget s.loc d = lget s'.loc d from h]
   ·rcases hwr with hwr | ⟨b,hwr⟩
    ·exact (hO.af j i oj o ag n a d hoj ho hop hwr n2 n1 v off hp).elim
    ·cases b with
     | false =>
      have := hO.free j i oj o hoj ho hne n2 n1
      simp [clash,hwr,cls_ld hop,clsClash] at this
     | true => exact hO.sf i j o oj ag n a ho hoj hop hwr n1 n2 hw d v off hp
  | gptr id off =>
   refine look (fun s => rd (lget s.loc) s.mem (.gptr id off) n) .mem (fun s s' h => ?_) fun j oj hoj hwr hne n1 n2 => ?_
   ·show rd (fun _ => none) s.mem (.gptr id off) n = rd (fun _ => none) s'.mem (.gptr id off) n
    rw [show s.mem = s'.mem from h]
   ·refine hO.cf i j o oj ag n a ho hoj hop ?_ n1 n2 hw id off hp
    rcases hwr with hwr | ⟨b,hwr⟩
    ·exact .inl hwr
    ·cases b with
     | false =>
      have := hO.free j i oj o hoj ho hne n2 n1
      simp [clash,hwr,cls_ld hop,clsClash] at this
     | true => exact .inr hwr
  | _ => rfl
 obtain ⟨s1,h1,h2,h3⟩ := astep_sync (hT.step i o ho) hrd hld
 refine ⟨s1,h1,fun r k hk hlt hge => ?_⟩
 by_cases hw : wrR o r
 ·have hik : i < k := by
   rcases Nat.lt_or_ge i k with h | h
   ·exact h
   ·exact absurd (.inr rfl) (hge i o h ho hw)
  refine agree_trans (h2 r hw) (agree_symm (hT.same (i := i + 1) hik hk fun j oj hj hjk hoj hwj => ?_))
  have hl : listed j := (hlt j oj hjk hoj hwj).resolve_right (by omega)
  by_cases g1 : Pre i j
  ·exact hun (hcl _ _ g1 hl)
  ·by_cases g2 : Pre j i
   ·have := hO.back _ _ g2; omega
   ·exact (clash_spec (hO.free i j o oj ho hoj (by omega) g1 g2) r hw).1 hwj
 ·refine agree_trans (h3 r hw).1 (hI r k hk (fun j oj hj hoj hwj => ?_) (fun j oj hj hoj hwj hl => hge j oj hj hoj hwj (.inl hl)))
  refine (hlt j oj hj hoj hwj).resolve_right ?_
  rintro rfl
  rw [ho] at hoj; cases hoj
  exact hw hwj
end
end Go.Abs
