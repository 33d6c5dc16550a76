/- Regions that draw their order: what each operation reads and writes, and why any order comes to the text's. -/
import Derived.Test.YtiigojkfojnedaaGreatDoorXT
set_option linter.unusedVariables false
set_option linter.unusedSimpArgs false
namespace Go.Abs

/-! ### operands -/
def AO.opds : AO → List Opd
  | .bad => []
  | .mv x => [x]
  | .pick c a b => [c, a, b]
  | .alloc _ _ => []
  | .abld _ _ => []
  | .box _ _ x => [x]
  | .build _ parts => parts.map (·.2.2)
  | .bslice _ _ xs => xs
  | .ld _ _ a => [a]
  | .st _ a x => [a, x]
  | .nilck x => [x]
  | .bin _ x y => [x, y]
  | .eqs _ _ x y => [x, y]
  | .eqb _ x y => [x, y]
  | .isnil _ _ x => [x]
  | .un _ x => [x]
  | .conv _ x => [x]
  | .mkif _ x => [x]
  | .mkfn _ a b => a ++ b
  | .fa _ x => [x]
  | .fld _ _ _ x => [x]
  | .ia _ x i => [x, i]
  | .iaa _ _ x i => [x, i]
  | .ixa _ _ _ x i => [x, i]
  | .ixs x i => [x, i]
  | .lookup _ _ _ m k => [m, k]
  | .mapup _ m k v => [m, k, v]
  | .mkmap => []
  | .slc _ x lo hi mx => x :: (lo.toList ++ hi.toList ++ mx.toList)
  | .slcs x lo hi => x :: (lo.toList ++ hi.toList)
  | .ext x _ => [x]
  | .call f args => f :: args
  | .app _ _ _ _ x y => [x, y]
  | .len x => [x]
  | .lens x => [x]
  | .lenm x => [x]
  | .lenc _ => []
  | .mkslc _ _ _ n c => [n, c]
  | .cpy _ x y => [x, y]
  | .clr _ x => [x]
  | .del _ m k => [m, k]
  | .max x y => [x, y]
  | .min x y => [x, y]
  | .rng x => [x]
  | .nxt x => [x]

def Opd.tmp? : Opd → Option Nat
  | .t n => some n
  | _ => none

def AOp.uses (o : AOp) : List Nat := o.op.opds.filterMap Opd.tmp? ++ o.guard.toList.map (·.1)

theorem bound_congr {ev ev' : Opd → AV} {top : Nat} {x : Option Opd} {d : Nat} (h : ∀ y ∈ x.toList, ev y = ev' y) : bound ev top x d = bound ev' top x d := by
  cases x with
  | none => rfl
  | some y => simp only [bound, h y (by simp)]

theorem fills_congr {ev ev' : Opd → AV} {l : List (Nat × Nat × Opd)} {cs : List AV} (h : ∀ y ∈ l.map (·.2.2), ev y = ev' y) : fills ev l cs = fills ev' l cs := by
  induction l generalizing cs with
  | nil => rfl
  | cons p l ih =>
    obtain ⟨off, size, x⟩ := p
    simp only [List.map_cons, List.mem_cons, forall_eq_or_imp] at h
    simp only [fills, h.1]
    split
    · exact ih h.2
    · rfl

theorem aop_congr {ev ev' : Opd → AV} {lk mem callv dst} {o : AO} (h : ∀ x ∈ o.opds, ev x = ev' x) : aop ev lk mem callv dst o = aop ev' lk mem callv dst o := by
  cases o with
  | build z parts => simp only [aop, fills_congr (ev := ev) (ev' := ev') h]
  | bslice ag sz xs =>
    have h1 : (xs.all fun x => shaped ag sz (ev x)) = xs.all fun x => shaped ag sz (ev' x) := by
      rw [Bool.eq_iff_iff]; simp only [List.all_eq_true]
      exact forall_congr' fun x => forall_congr' fun hx => by rw [h x hx]
    have h2 : (xs.map fun x => mem.nol (ev x)) = xs.map fun x => mem.nol (ev' x) := List.map_congr_left fun x hx => by rw [h x hx]
    simp only [aop, h1, h2]
  | mkfn f a b =>
    have h1 : a.map ev = a.map ev' := List.map_congr_left fun x hx => h x (List.mem_append_left _ hx)
    have h2 : b.map ev = b.map ev' := List.map_congr_left fun x hx => h x (List.mem_append_right _ hx)
    simp only [aop, h1, h2]
  | call f args =>
    have h1 : args.map ev = args.map ev' := List.map_congr_left fun x hx => h x (List.mem_cons_of_mem _ hx)
    have h2 := h f (by simp [AO.opds])
    simp only [aop, h1, h2]
  | slc sz x lo hi mx =>
    have h2 := h x (by simp [AO.opds])
    have h3 := fun top d => bound_congr (top := top) (d := d) (x := lo) (ev := ev) (ev' := ev') fun y hy => h y (by simp only [AO.opds, List.mem_cons, List.mem_append]; exact .inr (.inl (.inl hy)))
    have h4 := fun top d => bound_congr (top := top) (d := d) (x := hi) (ev := ev) (ev' := ev') fun y hy => h y (by simp only [AO.opds, List.mem_cons, List.mem_append]; exact .inr (.inl (.inr hy)))
    have h5 := fun top d => bound_congr (top := top) (d := d) (x := mx) (ev := ev) (ev' := ev') fun y hy => h y (by simp only [AO.opds, List.mem_cons, List.mem_append]; exact .inr (.inr hy))
    simp only [aop, h2, h3, h4, h5]
  | slcs x lo hi =>
    have h2 := h x (by simp [AO.opds])
    have h3 := fun top d => bound_congr (top := top) (d := d) (x := lo) (ev := ev) (ev' := ev') fun y hy => h y (by simp only [AO.opds, List.mem_cons, List.mem_append]; exact .inr (.inl hy))
    have h4 := fun top d => bound_congr (top := top) (d := d) (x := hi) (ev := ev) (ev' := ev') fun y hy => h y (by simp only [AO.opds, List.mem_cons, List.mem_append]; exact .inr (.inr hy))
    simp only [aop, h2, h3, h4]
  | _ =>
    simp only [AO.opds, List.mem_cons, List.not_mem_nil, or_false, forall_eq_or_imp, forall_eq, false_imp_iff, implies_true] at h
    simp only [aop, h]

/-! ### classes -/
inductive Cls
  | quiet
  | load
  | new (d : Nat)
  | call
  | eff (st : Bool)
  deriving DecidableEq

def AOp.cls (o : AOp) : Cls :=
  match o.op with
  | .alloc false _ | .box false _ _ | .rng _ => match o.dst with
    | some d => .new d
    | none => .eff false
  | .ld _ _ _ => .load
  | .call _ _ | .app _ _ _ _ _ _ | .alloc true _ | .box true _ _ | .abld _ _ => .call
  | .st _ _ _ => .eff true
  | .bad | .lookup _ _ _ _ _ | .lenm _ | .mapup _ _ _ _ | .del _ _ _ | .mkmap | .mkslc _ _ _ _ _ | .cpy _ _ _ | .clr _ _ | .nxt _ => .eff false
  | _ => .quiet

inductive Res
  | env (t : Nat)
  | loc (d : Nat)
  | mem
  deriving DecidableEq

def agree : Res → St → St → Prop
  | .env t, s, s' => getE s.env t = getE s'.env t
  | .loc d, s, s' => lget s.loc d = lget s'.loc d
  | .mem, s, s' => s.mem = s'.mem

theorem agree_refl (r : Res) (s : St) : agree r s s := by cases r <;> rfl
theorem agree_symm {r : Res} {s s' : St} (h : agree r s s') : agree r s' s := by cases r <;> exact Eq.symm h
theorem agree_trans {r : Res} {s s' s'' : St} (h : agree r s s') (k : agree r s' s'') : agree r s s'' := by cases r <;> exact Eq.trans h k

def wrR (o : AOp) : Res → Prop
  | .env t => o.dst = some t
  | .loc d => o.cls = .new d ∨ ∃ b, o.cls = .eff b
  | .mem => o.cls = .call ∨ ∃ b, o.cls = .eff b
def rdR (o : AOp) : Res → Prop
  | .env t => t ∈ o.uses
  | .loc d => o.cls = .new d ∨ ∃ b, o.cls = .eff b
  | .mem => o.cls = .call ∨ ∃ b, o.cls = .eff b

theorem quiet_spec {o : AOp} (hc : o.cls = .quiet) {ev : Opd → AV} {lk mem callv v u m} (h : aop ev lk mem callv o.dst o.op = some (v, u, m)) :
    u = none ∧ m = mem ∧ ∀ lk' mem', aop ev lk' mem' callv o.dst o.op = some (v, none, mem') := by
  obtain ⟨dst, op, gd⟩ := o
  cases op with
  | alloc g z => cases g <;> cases dst <;> simp [AOp.cls] at hc
  | box g n x => cases g <;> cases dst <;> simp [AOp.cls] at hc
  | rng x => cases dst <;> simp [AOp.cls] at hc
  | bad => simp [AOp.cls] at hc
  | ld => simp [AOp.cls] at hc
  | st => simp [AOp.cls] at hc
  | call => simp [AOp.cls] at hc
  | app => simp [AOp.cls] at hc
  | abld => simp [AOp.cls] at hc
  | lookup => simp [AOp.cls] at hc
  | lenm => simp [AOp.cls] at hc
  | mapup => simp [AOp.cls] at hc
  | del => simp [AOp.cls] at hc
  | mkmap => simp [AOp.cls] at hc
  | nxt => simp [AOp.cls] at hc
  | mkslc => simp [AOp.cls] at hc
  | cpy => simp [AOp.cls] at hc
  | clr => simp [AOp.cls] at hc
  | max x y =>
    simp only [aop] at h ⊢
    split at h
    · rename_i h1 h2
      split at h
      · rename_i h3
        simp only [Prod.mk.injEq, Option.some.injEq] at h
        obtain ⟨rfl, rfl, rfl⟩ := h
        refine ⟨rfl, rfl, fun _ _ => ?_⟩
        rw [if_pos h3]
      · cases h
    · cases h
  | min x y =>
    simp only [aop] at h ⊢
    split at h
    · rename_i h1 h2
      split at h
      · rename_i h3
        simp only [Prod.mk.injEq, Option.some.injEq] at h
        obtain ⟨rfl, rfl, rfl⟩ := h
        refine ⟨rfl, rfl, fun _ _ => ?_⟩
        rw [if_pos h3]
      · cases h
    · cases h
  | bslice ag sz xs =>
    simp only [aop] at h ⊢
    split at h
    · rename_i hx
      simp only [Option.some.injEq, Prod.mk.injEq] at h
      obtain ⟨rfl, rfl, rfl⟩ := h
      refine ⟨rfl, rfl, fun _ _ => ?_⟩
      rw [if_pos hx]; rfl
    · cases h
  | _ =>
    simp only [aop] at h ⊢
    repeat' split at h
    all_goals first | (cases h; done) | skip
    all_goals (try simp only [Option.map_eq_some_iff, Prod.mk.injEq, Option.some.injEq] at h)
    all_goals first
      | (obtain ⟨rfl, rfl, rfl⟩ := h; refine ⟨rfl, rfl, fun _ _ => ?_⟩; simp_all; done)
      | (obtain ⟨x, hx, rfl, rfl, rfl⟩ := h; refine ⟨rfl, rfl, fun _ _ => ?_⟩; simp_all; done)
      | skip

theorem call_spec {o : AOp} (hc : o.cls = .call) {ev : Opd → AV} {lk mem callv v u m} (h : aop ev lk mem callv o.dst o.op = some (v, u, m)) :
    u = none ∧ ∀ lk', aop ev lk' mem callv o.dst o.op = some (v, none, m) := by
  obtain ⟨dst, op, gd⟩ := o
  cases op with
  | alloc g z =>
    cases g with
    | false => cases dst <;> simp [AOp.cls] at hc
    | true =>
      simp only [aop, newVar, if_true, Option.some.injEq, Prod.mk.injEq] at h ⊢
      obtain ⟨rfl, rfl, rfl⟩ := h
      exact ⟨rfl, fun _ => by simp⟩
  | box g n x =>
    cases g with
    | false => cases dst <;> simp [AOp.cls] at hc
    | true =>
      simp only [aop, newVar, if_true] at h ⊢
      split at h
      · rename_i hn
        simp only [Option.some.injEq, Prod.mk.injEq] at h
        obtain ⟨rfl, rfl, rfl⟩ := h
        exact ⟨rfl, fun _ => by rw [if_pos hn]⟩
      · cases h
  | rng x => cases dst <;> simp [AOp.cls] at hc
  | abld T e =>
    simp only [aop, Option.some.injEq, Prod.mk.injEq] at h ⊢
    obtain ⟨rfl, rfl, rfl⟩ := h
    exact ⟨rfl, fun _ => by simp⟩
  | call f args =>
    simp only [aop, Option.map_eq_some_iff, Prod.mk.injEq, Prod.exists] at h
    obtain ⟨a, b, h1, rfl, rfl, rfl⟩ := h
    exact ⟨rfl, fun _ => by simp only [aop, h1, Option.map_some]⟩
  | app ag sz bytes e x y =>
    simp only [aop, Option.map_eq_some_iff, Prod.mk.injEq, Prod.exists] at h
    obtain ⟨a, b, h1, rfl, rfl, rfl⟩ := h
    exact ⟨rfl, fun _ => by simp only [aop, h1, Option.map_some]⟩
  | _ => simp [AOp.cls] at hc

theorem new_spec {o : AOp} {d : Nat} (hc : o.cls = .new d) {ev : Opd → AV} {lk mem callv v u m} (h : aop ev lk mem callv o.dst o.op = some (v, u, m)) :
    o.dst = some d ∧ m = mem ∧ (∃ x, u = some (d, x)) ∧ ∀ lk' mem', lk' d = lk d → aop ev lk' mem' callv o.dst o.op = some (v, u, mem') := by
  obtain ⟨dst, op, gd⟩ := o
  have hv : ∀ (lk' : Nat → Option (Nat × Blk)), lk' d = lk d → newVer lk' d = newVer lk d := fun lk' h => by simp only [newVer, h]
  cases op with
  | alloc g z =>
    cases g <;> cases dst <;> simp [AOp.cls] at hc
    subst hc
    simp only [aop, newVar, Bool.false_eq_true, if_false, Option.some.injEq, Prod.mk.injEq] at h ⊢
    obtain ⟨rfl, rfl, rfl⟩ := h
    refine ⟨trivial, rfl, ⟨_, rfl⟩, fun lk' mem' hl => ?_⟩
    rw [hv lk' hl]; simp
  | box g n x =>
    cases g <;> cases dst <;> simp [AOp.cls] at hc
    subst hc
    simp only [aop, newVar, Bool.false_eq_true, if_false] at h ⊢
    split at h
    · rename_i hn
      simp only [Option.some.injEq, Prod.mk.injEq] at h
      obtain ⟨rfl, rfl, rfl⟩ := h
      refine ⟨trivial, rfl, ⟨_, rfl⟩, fun lk' mem' hl => ?_⟩
      rw [hv lk' hl, if_pos hn]
    · cases h
  | rng x =>
    cases dst <;> simp [AOp.cls] at hc
    subst hc
    simp only [aop] at h ⊢
    split at h
    · rename_i s d' hx hd
      cases hd
      simp only [Option.some.injEq, Prod.mk.injEq] at h
      obtain ⟨rfl, rfl, rfl⟩ := h
      refine ⟨trivial, rfl, ⟨_, rfl⟩, fun lk' mem' hl => ?_⟩
      rw [hv lk' hl]
    · cases h
  | _ => simp [AOp.cls] at hc

theorem load_spec {o : AOp} (hc : o.cls = .load) : ∃ ag n a, o.op = .ld ag n a := by
  obtain ⟨dst, op, gd⟩ := o
  cases op with
  | alloc g z => cases g <;> cases dst <;> simp [AOp.cls] at hc
  | box g n x => cases g <;> cases dst <;> simp [AOp.cls] at hc
  | rng x => cases dst <;> simp [AOp.cls] at hc
  | ld ag n a => exact ⟨_, _, _, rfl⟩
  | _ => simp [AOp.cls] at hc

/-- What a load looks at is the same in both states. -/
def LdOK (gl : Nat → AV) (o : AOp) (s S : St) : Prop :=
  ∀ ag n a, o.op = .ld ag n a → wantedA S.env o.guard ≠ some false → rd (lget s.loc) s.mem (evO gl S.env a) n = rd (lget S.loc) S.mem (evO gl S.env a) n

theorem wantedA_congr {env env' : List AV} {gd : Option (Nat × Bool)} (h : ∀ t ∈ gd.toList.map (·.1), getE env t = getE env' t) : wantedA env gd = wantedA env' gd := by
  cases gd with
  | none => rfl
  | some p => simp only [wantedA]; rw [h p.1 (by simp)]

theorem evO_congr {gl : Nat → AV} {env env' : List AV} {l : List Opd} (h : ∀ t ∈ l.filterMap Opd.tmp?, getE env t = getE env' t) : ∀ x ∈ l, evO gl env x = evO gl env' x := by
  intro x hx
  cases x with
  | t n => exact h n (List.mem_filterMap.2 ⟨_, hx, rfl⟩)
  | c v => rfl
  | g n => rfl

theorem agree_put {o : AOp} {s : St} {v : AV} : (∀ t, o.dst ≠ some t → getE (setO s.env o.dst v) t = getE s.env t) ∧ (∀ t, o.dst = some t → getE (setO s.env o.dst v) t = v) := by
  refine ⟨fun t ht => ?_, fun t ht => ?_⟩
  · rw [getE_setO, if_neg ht]
  · rw [getE_setO, if_pos ht]

theorem astep_sync {gl : Nat → AV} {callv : CallV} {o : AOp} {s S S1 : St} (hst : astep gl callv o S = some S1) (hrd : ∀ r, rdR o r → agree r s S) (hld : LdOK gl o s S) :
    ∃ s1, astep gl callv o s = some s1 ∧ (∀ r, wrR o r → agree r s1 S1) ∧ ∀ r, ¬wrR o r → agree r s1 s ∧ agree r S1 S := by
  have hu : ∀ t ∈ o.uses, getE s.env t = getE S.env t := fun t ht => hrd (.env t) ht
  have hw : wantedA s.env o.guard = wantedA S.env o.guard := wantedA_congr fun t ht => hu t (List.mem_append_right _ ht)
  have hev : ∀ x ∈ o.op.opds, evO gl s.env x = evO gl S.env x := evO_congr fun t ht => hu t (List.mem_append_left _ ht)
  unfold astep at hst ⊢
  rw [hw]
  split at hst
  · cases hst
  · rename_i hwt
    split at hst
    · rename_i v u m he
      cases hst
      have fin : ∀ (u' : Upd) (m' : Mem), (∀ r, wrR o r → r = .mem → m' = m) → (∀ d, wrR o (.loc d) → lget (setU s.loc u') d = lget (setU S.loc u) d) →
          (¬wrR o .mem → m' = s.mem ∧ m = S.mem) → (∀ d, ¬wrR o (.loc d) → lget (setU s.loc u') d = lget s.loc d ∧ lget (setU S.loc u) d = lget S.loc d) →
          (∀ r, wrR o r → agree r ({ env := setO s.env o.dst v, loc := setU s.loc u', mem := m' } : St) { env := setO S.env o.dst v, loc := setU S.loc u, mem := m }) ∧
          ∀ r, ¬wrR o r → agree r ({ env := setO s.env o.dst v, loc := setU s.loc u', mem := m' } : St) s ∧ agree r ({ env := setO S.env o.dst v, loc := setU S.loc u, mem := m } : St) S := by
        intro u' m' h1 h2 h3 h4
        refine ⟨fun r hr => ?_, fun r hr => ?_⟩
        · cases r with
          | env t => simp only [agree]; rw [getE_setO, getE_setO, if_pos (show o.dst = some t from hr), if_pos (show o.dst = some t from hr)]
          | loc d => exact h2 d hr
          | mem => exact h1 _ hr rfl
        · cases r with
          | env t =>
            have hr : ¬o.dst = some t := hr
            simp only [agree]; rw [getE_setO, getE_setO, if_neg hr, if_neg hr]; exact ⟨rfl, rfl⟩
          | loc d => exact h4 d hr
          | mem => exact h3 hr
      rw [aop_congr hev]
      cases hc : o.cls with
      | quiet =>
        obtain ⟨rfl, rfl, k⟩ := quiet_spec hc he
        refine ⟨_, by rw [k], fin none s.mem (fun r hr he => ?_) (fun d hr => ?_) (fun _ => ⟨rfl, rfl⟩) (fun _ _ => ⟨rfl, rfl⟩)⟩
        · subst he; simp [wrR, hc] at hr
        · simp [wrR, hc] at hr
      | load =>
        obtain ⟨ag, n, a, hop⟩ := load_spec hc
        have hl := hld ag n a hop (by rw [hwt]; simp)
        simp only [hop, aop] at he ⊢
        rw [hl]
        split at he
        · rename_i l hl'
          simp only [Option.map_eq_some_iff, Prod.mk.injEq] at he
          obtain ⟨x, hx, rfl, rfl, rfl⟩ := he
          refine ⟨_, by simp only [hx, Option.map_some], fin none s.mem (fun r hr he => ?_) (fun d hr => ?_) (fun _ => ⟨rfl, rfl⟩) (fun _ _ => ⟨rfl, rfl⟩)⟩
          · subst he; simp [wrR, hc] at hr
          · simp [wrR, hc] at hr
        · cases he
      | new d =>
        obtain ⟨hd, rfl, ⟨x, rfl⟩, k⟩ := new_spec hc he
        have hl : lget s.loc d = lget S.loc d := hrd (.loc d) (.inl hc)
        refine ⟨_, by rw [k _ s.mem hl], fin (some (d, x)) s.mem (fun r hr he => ?_) (fun d' hr => ?_) (fun _ => ⟨rfl, rfl⟩) (fun d' hr => ?_)⟩
        · subst he; simp [wrR, hc] at hr
        · simp only [wrR, hc, Cls.new.injEq, reduceCtorEq, exists_const, or_false] at hr
          subst hr
          obtain ⟨v', b⟩ := x
          simp only [setU, lget_lset, if_true]
        · have hne : d ≠ d' := fun h => hr (.inl (by rw [hc, h]))
          obtain ⟨v', b⟩ := x
          simp only [setU, lget_lset, if_neg hne]; exact ⟨trivial, trivial⟩
      | call =>
        obtain ⟨rfl, k⟩ := call_spec hc he
        have hm : s.mem = S.mem := hrd .mem (.inl hc)
        refine ⟨_, by rw [hm, k], fin none m (fun _ _ _ => rfl) (fun d hr => ?_) (fun hr => absurd (.inl hc) hr) (fun _ _ => ⟨rfl, rfl⟩)⟩
        simp [wrR, hc] at hr
      | eff b0 =>
        have hm : s.mem = S.mem := hrd .mem ((.inr ⟨_, hc⟩))
        have hl : lget s.loc = lget S.loc := funext fun d => hrd (.loc d) ((.inr ⟨_, hc⟩))
        refine ⟨_, by rw [hm, hl, he], fin u m (fun _ _ _ => rfl) (fun d hr => ?_) (fun hr => absurd (.inr ⟨_, hc⟩) hr) (fun d hr => absurd (.inr ⟨_, hc⟩) hr)⟩
        rw [lget_setU, lget_setU, hl]
    · cases hst
  · cases hst
    refine ⟨_, rfl, fun r hr => ?_, fun r hr => ?_⟩
    · cases r with
      | env t => simp only [agree]; rw [getE_setO, getE_setO, if_pos (show o.dst = some t from hr), if_pos (show o.dst = some t from hr)]
      | loc d => exact hrd (.loc d) hr
      | mem => exact hrd .mem hr
    · cases r with
      | env t =>
        have hr : ¬o.dst = some t := hr
        simp only [agree]; rw [getE_setO, getE_setO, if_neg hr, if_neg hr]; exact ⟨rfl, rfl⟩
      | loc d => exact ⟨rfl, rfl⟩
      | mem => exact ⟨rfl, rfl⟩

end Go.Abs
