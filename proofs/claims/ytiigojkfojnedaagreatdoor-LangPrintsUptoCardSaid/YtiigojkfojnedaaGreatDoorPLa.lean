/- A text of this proof. -/
import Derived.Test.YtiigojkfojnedaaGreatDoorPCc
import Derived.Test.YtiigojkfojnedaaGreatDoorPA
import Derived.ChangeArms
import Derived.ChangeShapes
set_option linter.unusedVariables false
set_option linter.unusedSimpArgs false
namespace Go.Abs
open Go.RowKit (Below)
section
variable {F : Fence} {n : Nat} {P : Program} {gl : Nat -> AV} {base : Nat} {LC : LCR} {g : Gh} {own : OW} {mem : Mem} {w w' : World} {r : AV} {x : Value}
theorem callPost_below (hm : MemR g own LC mem w) (ho : OwnR base own w) (hgl : GlR g gl) (hb : Below w.heap.size w w') (hv : VR g noLB r x) : CallPost base LC gl g own w r mem x w' := by
 obtain ⟨h1,h2,h3,h4,h5⟩ := hb
 refine ⟨g,ownM own,⟨g.sub_refl,h4,h1,h2,h3,fun b hb _ => h5 b hb,fun _ _ h => by simpa [ownM] using h,fun _ _ _ _ => rfl⟩,?_,hv,⟨fun b o hb => ?_,Nat.le_trans ho.base h4⟩,fun b d hb => ?_,hgl⟩
 ·refine hm.keep g.sub_refl (fun _ h => h) (fun _ _ h => h) (fun id b hb => ⟨by rw [ownM_m hb,hb],h5 b (ho.ge b _ hb).2,fun _ => rfl⟩) (fun b o y hy => ?_)
  have hc := hm.im b o y hy
  rw [cell?_of_heap (h5 b (cell_lt hc))]; exact hc
 ·have := ho.ge b o (ownM_some hb).1
  exact ⟨this.1,Nat.lt_of_lt_of_le this.2 h4⟩
 ·obtain ⟨_,id,h⟩ := ownM_some hb; cases h
theorem calledR_of_calls {f : FuncId} {fn : Func} {vargs : Array Value} (hf : P.funcs[f]? = some fn) (hb : fn.body.isNone = false) (hn : (fn.name == "runtime.NumGoroutine") = false) {R : Value -> World -> Prop}
  (h : CallsIn F n P f vargs w fun e w' => ∃ x,e = .returned x /\ R x w') : CalledR F n P ((callFunc f vargs).run P w) w R :=
 .inl ⟨f,vargs,run_callFunc hf hb hn,h⟩
theorem pw1 {R : AV -> Value -> Prop} {a : AV} {vargs : Array Value} (h : PW R [a] vargs.toList) : ∃ x,vargs = #[x] /\ R a x := by
 obtain ⟨l⟩ := vargs
 match l,h with
 | [x],h => exact ⟨x,rfl,h.2 0 (by simp) (by simp)⟩
 | [],h => exact absurd h.1 (by simp)
 | _ :: _ :: _,h => exact absurd h.1 (by simp)
theorem pw2 {R : AV -> Value -> Prop} {a b : AV} {vargs : Array Value} (h : PW R [a,b] vargs.toList) : ∃ x y,vargs = #[x,y] /\ R a x /\ R b y := by
 obtain ⟨l⟩ := vargs
 match l,h with
 | [x,y],h => exact ⟨x,y,rfl,h.2 0 (by simp) (by simp),h.2 1 (by simp) (by simp)⟩
 | [],h => exact absurd h.1 (by simp)
 | [_],h => exact absurd h.1 (by simp)
 | _ :: _ :: _ :: _,h => exact absurd h.1 (by simp)
end
end Go.Abs
namespace Go.Abs
open Classical
noncomputable def cvl (C : Cfg) : CallV := fun fv args mem =>
 if h : ∃ r k,cv C k fv args mem = some r then some h.choose else none
noncomputable def lpl : LoopV := fun b s => if h : ∃ r n,aloop n b s = some r then some h.choose else none
theorem cvl_iff {C : Cfg} {fv args mem r} : cvl C fv args mem = some r ↔ ∃ k,cv C k fv args mem = some r := by
 unfold cvl
 split
 ·rename_i h
  obtain ⟨k,hk⟩ := h.choose_spec
  constructor
  ·intro he; cases he; exact ⟨k,hk⟩
  ·rintro ⟨k',hk'⟩
   have h1 := cv_mono C (Nat.le_max_left k k') _ _ _ _ hk
   have h2 := cv_mono C (Nat.le_max_right k k') _ _ _ _ hk'
   rw [h1] at h2; exact h2
 ·rename_i h
  constructor
  ·intro he; cases he
  ·rintro ⟨k,hk⟩; exact absurd ⟨r,k,hk⟩ h
theorem aloop_mono' {b : St -> Option (Ex × St)} {n m : Nat} (h : n <= m) {s r} (hr : aloop n b s = some r) : aloop m b s = some r :=
 aloop_mono n m h b b (fun _ _ h => h) s r hr
theorem lpl_iff {b s r} : lpl b s = some r ↔ ∃ n,aloop n b s = some r := by
 unfold lpl
 split
 ·rename_i h
  obtain ⟨k,hk⟩ := h.choose_spec
  constructor
  ·intro he; cases he; exact ⟨k,hk⟩
  ·rintro ⟨k',hk'⟩
   have h1 := aloop_mono' (Nat.le_max_left k k') hk
   have h2 := aloop_mono' (Nat.le_max_right k k') hk'
   rw [h1] at h2; exact h2
 ·rename_i h
  constructor
  ·intro he; cases he
  ·rintro ⟨k,hk⟩; exact absurd ⟨r,k,hk⟩ h
theorem aloop_succ (n : Nat) (b : St -> Option (Ex × St)) (s : St) : aloop (n + 1) b s = match b s with
  | some (.normal,s') => aloop n b s'
  | r => r := rfl
theorem lpl_normal {b : St -> Option (Ex × St)} {s s' : St} (h : b s = some (.normal,s')) : lpl b s = lpl b s' := by
 apply Option.ext
 intro r
 rw [lpl_iff,lpl_iff]
 constructor
 ·rintro ⟨n,hn⟩
  cases n with
  | zero => simp [aloop] at hn
  | succ n => rw [aloop_succ,h] at hn; exact ⟨n,hn⟩
 ·rintro ⟨n,hn⟩
  exact ⟨n + 1,by rw [aloop_succ,h]; exact hn⟩
theorem lpl_out {b : St -> Option (Ex × St)} {s : St} {r : Ex × St} (h : b s = some r) (hr : r.1 ≠ .normal) : lpl b s = some r := by
 rw [lpl_iff]
 refine ⟨1,?_⟩
 rw [aloop_succ,h]
 obtain ⟨e,s'⟩ := r
 cases e <;> simp_all
section
variable {C : Cfg} {gl : Nat -> AV}
theorem aop_cont {ev lk mem dst o r} (h : aop ev lk mem (cvl C) dst o = some r) : ∃ k,aop ev lk mem (cv C k) dst o = some r := by
 cases o
 case call f args =>
  simp only [aop,Option.map_eq_some_iff] at h ⊢
  obtain ⟨x,hx,hr⟩ := h
  obtain ⟨k,hk⟩ := cvl_iff.1 hx
  exact ⟨k,x,hk,hr⟩
 all_goals exact ⟨0,h⟩
theorem astep_cont {o s r} (h : astep gl (cvl C) o s = some r) : ∃ k,astep gl (cv C k) o s = some r := by
 unfold astep at h ⊢
 split at h
 ·cases h
 ·split at h
  ·rename_i he
   obtain ⟨k,hk⟩ := aop_cont he
   exact ⟨k,by rw [hk]; exact h⟩
  ·cases h
 ·exact ⟨0,h⟩
theorem aops_cont {l s r} (h : aops gl (cvl C) l s = some r) : ∃ k,aops gl (cv C k) l s = some r := by
 induction l generalizing s with
 | nil => exact ⟨0,h⟩
 | cons o l ih =>
  simp only [aops] at h ⊢
  split at h
  ·rename_i s' he
   obtain ⟨k1,h1⟩ := astep_cont he
   obtain ⟨k2,h2⟩ := ih h
   refine ⟨max k1 k2,?_⟩
   rw [astep_mono (cv_mono C (Nat.le_max_left _ _)) h1]
   exact aops_mono (cv_mono C (Nat.le_max_right _ _)) h2
  ·cases h
theorem ascan_cont {l s r} (h : ascan gl (cvl C) l s = some r) : ∃ k,ascan gl (cv C k) l s = some r := by
 induction l generalizing s r with
 | nil => exact ⟨0,h⟩
 | cons o l ih =>
  simp only [ascan] at h ⊢
  split at h
  ·rename_i s' he
   simp only [Option.map_eq_some_iff] at h
   obtain ⟨x,hx,rfl⟩ := h
   obtain ⟨k1,h1⟩ := astep_cont he
   obtain ⟨k2,h2⟩ := ih hx
   refine ⟨max k1 k2,?_⟩
   rw [astep_mono (cv_mono C (Nat.le_max_left _ _)) h1]
   simp only [ascan_mono (cv_mono C (Nat.le_max_right _ _)) h2,Option.map_some]
  ·cases h
theorem adraw_cont {l cf af s r} (h : adraw gl (cvl C) l cf af s = some r) : ∃ k,adraw gl (cv C k) l cf af s = some r := by
 unfold adraw at h ⊢
 split at h
 ·rename_i tr he
  obtain ⟨k,hk⟩ := ascan_cont he
  exact ⟨k,by rw [hk]; exact h⟩
 ·cases h
theorem exec_up {k k' : Nat} (hk : k <= k') {a : AC} {s r} (h : exec gl (cv C k) (aloop k) a s = some r) : exec gl (cv C k') (aloop k') a s = some r :=
 exec_mono (cv_mono C hk) (aloop_mono _ _ hk) a s r h
theorem exec_cont (a : AC) : ∀ s r,exec gl (cvl C) lpl a s = some r -> ∃ k,exec gl (cv C k) (aloop k) a s = some r := by
 induction a with
 | skip => intro s r h; exact ⟨0,h⟩
 | ops l =>
  intro s r h
  simp only [exec,Option.map_eq_some_iff] at h ⊢
  obtain ⟨x,hx,hr⟩ := h
  obtain ⟨k,hk⟩ := aops_cont hx
  exact ⟨k,x,hk,hr⟩
 | draw l cf af =>
  intro s r h
  simp only [exec,Option.map_eq_some_iff] at h ⊢
  obtain ⟨x,hx,hr⟩ := h
  obtain ⟨k,hk⟩ := adraw_cont hx
  exact ⟨k,x,hk,hr⟩
 | seq a b iha ihb =>
  intro s r h
  simp only [exec] at h
  split at h
  ·rename_i s' he
   obtain ⟨k1,h1⟩ := iha _ _ he
   obtain ⟨k2,h2⟩ := ihb _ _ h
   exact ⟨max k1 k2,by simp only [exec,exec_up (Nat.le_max_left k1 k2) h1]; exact exec_up (Nat.le_max_right k1 k2) h2⟩
  ·rename_i hne
   obtain ⟨k1,h1⟩ := iha _ _ h
   refine ⟨k1,?_⟩
   simp only [exec,h1]
   split
   ·rename_i he; cases he; exact absurd h (hne _)
   ·rfl
 | cond x a b iha ihb =>
  intro s r h
  simp only [exec] at h ⊢
  split at h
  ·split at h
   ·rename_i he ht
    obtain ⟨k,hk⟩ := iha _ _ h
    exact ⟨k,by simp only [ht,if_true]; exact hk⟩
   ·rename_i he ht
    obtain ⟨k,hk⟩ := ihb _ _ h
    exact ⟨k,by simp only [ht]; exact hk⟩
  ·cases h
 | block id a iha =>
  intro s r h
  simp only [exec] at h ⊢
  split at h
  ·rename_i he
   obtain ⟨k,hk⟩ := iha _ _ he
   exact ⟨k,by rw [hk]; exact h⟩
  ·rename_i hne
   obtain ⟨k,hk⟩ := iha _ _ h
   refine ⟨k,?_⟩
   rw [hk]
   split
   ·rename_i he; cases he; exact absurd h (hne _ _)
   ·rfl
 | loop a iha =>
  intro s r h
  simp only [exec] at h ⊢
  obtain ⟨n,hn⟩ := lpl_iff.1 h
  have : ∀ n s,aloop n (exec gl (cvl C) lpl a) s = some r -> ∃ k,aloop k (exec gl (cv C k) (aloop k) a) s = some r := by
   intro n
   induction n with
   | zero => intro s h; simp [aloop] at h
   | succ n ih =>
    intro s h
    simp only [aloop] at h
    split at h
    ·rename_i s' he
     obtain ⟨k1,h1⟩ := iha _ _ he
     obtain ⟨k2,h2⟩ := ih _ h
     refine ⟨max k1 k2 + 1,?_⟩
     rw [aloop_succ,exec_up (show k1 <= max k1 k2 + 1 by omega) h1]
     exact aloop_mono _ _ (show k2 <= max k1 k2 by omega) _ _ (fun s r h => exec_up (show k2 <= max k1 k2 + 1 by omega) h) _ _ h2
    ·rename_i hne
     obtain ⟨k1,h1⟩ := iha _ _ h
     refine ⟨k1 + 1,?_⟩
     rw [aloop_succ,exec_up (show k1 <= k1 + 1 by omega) h1]
     split
     ·rename_i he; cases he; exact absurd h (hne _)
     ·rfl
  exact this n s hn
 | exit id => intro s r h; exact ⟨0,h⟩
 | ret => intro s r h; exact ⟨0,h⟩
 | rfun f ps asg body _ _ =>
  intro s r h
  simp only [exec] at h ⊢
  split at h
  ·rename_i he
   obtain ⟨fv,h1,h2⟩ := Option.bind_eq_some_iff.1 he
   obtain ⟨k,hk⟩ := cvl_iff.1 h2
   refine ⟨k,?_⟩
   rw [h1]
   simp only [Option.bind_some,hk]; exact h
  ·cases h
 | pub ds => intro s r h; exact ⟨0,h⟩
 | bad => intro s r h; exact ⟨0,h⟩
theorem round_cont {l args mem r} (h : round (exec gl (cvl C) lpl) l args mem = some r) : ∃ k,round (exec gl (cv C k) (aloop k)) l args mem = some r := by
 unfold round at h ⊢
 split at h
 ·split at h
  ·rename_i hlen
   simp only [hlen,if_true]
   split at h
   ·rename_i he
    obtain ⟨k1,h1⟩ := exec_cont _ _ _ he
    split at h
    ·rename_i hls
     split at h
     ·rename_i he2
      obtain ⟨k2,h2⟩ := exec_cont _ _ _ he2
      exact ⟨max k1 k2,by simp only [exec_up (Nat.le_max_left k1 k2) h1,hls,if_true,exec_up (Nat.le_max_right k1 k2) h2]; exact h⟩
     ·rename_i he2
      obtain ⟨k2,h2⟩ := exec_cont _ _ _ he2
      exact ⟨max k1 k2,by simp only [exec_up (Nat.le_max_left k1 k2) h1,hls,if_true,exec_up (Nat.le_max_right k1 k2) h2]; exact h⟩
     ·rename_i he2
      obtain ⟨k2,h2⟩ := exec_cont _ _ _ he2
      exact ⟨max k1 k2,by simp only [exec_up (Nat.le_max_left k1 k2) h1,hls,if_true,exec_up (Nat.le_max_right k1 k2) h2]; exact h⟩
     ·cases h
    ·cases h
   ·cases h
  ·cases h
 ·cases h
theorem cvl_body {fv args mem r} (h : body C (cvl C) lpl fv args mem = some r) : cvl C fv args mem = some r := by
 apply cvl_iff.2
 unfold body at h
 split at h
 ·split at h
  ·rename_i p hp
   exact ⟨1,by simp only [cv,body,hp]; exact h⟩
  ·rename_i hp
   split at h
   ·rename_i g hg
    generalize he : exec C.gl (cvl C) lpl _ _ = x at h
    cases x with
    | none => simp [fin] at h
    | some x =>
     obtain ⟨k,hk⟩ := exec_cont _ _ _ he
     exact ⟨k + 1,by simp only [cv,body,hp,hg,hk]; exact h⟩
   ·cases h
 ·obtain ⟨k,hk⟩ := round_cont h
  exact ⟨k + 1,by simp only [cv,body]; exact hk⟩
 ·cases h
end
end Go.Abs
namespace Go.Abs
theorem lpl_rule {b : St -> Option (Ex × St)} {I : Nat -> St -> Prop} {Post : Ex × St -> Prop} (n : Nat)
  (step : ∀ i s,i <= n -> I i s -> (∃ s',b s = some (.normal,s') /\ i < n /\ I (i + 1) s') \/ (∃ r,b s = some r /\ r.1 ≠ .normal /\ Post r)) :
  ∀ k i s,i + k = n -> I i s -> ∃ r,lpl b s = some r /\ Post r := by
 intro k
 induction k with
 | zero =>
  intro i s hi hI
  rcases step i s (by omega) hI with ⟨s',_,h,_⟩ | ⟨r,h1,h2,h3⟩
  ·omega
  ·exact ⟨r,lpl_out h1 h2,h3⟩
 | succ k ih =>
  intro i s hi hI
  rcases step i s (by omega) hI with ⟨s',h1,h,h2⟩ | ⟨r,h1,h2,h3⟩
  ·obtain ⟨r,h3,h4⟩ := ih (i + 1) s' (by omega) h2
   exact ⟨r,by rw [lpl_normal h1]; exact h3,h4⟩
  ·exact ⟨r,lpl_out h1 h2,h3⟩
theorem loop_rule {gl : Nat -> AV} {c : CallV} {a : AC} {I : Nat -> St -> Prop} {Post : Ex × St -> Prop} (n : Nat) {s : St} (h0 : I 0 s)
  (step : ∀ i s,i <= n -> I i s -> (∃ s',exec gl c lpl a s = some (.normal,s') /\ i < n /\ I (i + 1) s') \/ (∃ r,exec gl c lpl a s = some r /\ r.1 ≠ .normal /\ Post r)) :
  ∃ r,exec gl c lpl (.loop a) s = some r /\ Post r := by
 simp only [exec]
 exact lpl_rule n step n 0 s (by omega) h0
def Runs (gl : Nat -> AV) (c : CallV) (a : AC) (s : St) (Q : Ex × St -> Prop) : Prop := ∃ r,exec gl c lpl a s = some r /\ Q r
theorem Runs.seq {gl : Nat -> AV} {c : CallV} {a b : AC} {s : St} {M : St -> Prop} {Q : Ex × St -> Prop} (h : Runs gl c a s fun r => (r.1 = .normal /\ M r.2) \/ (r.1 ≠ .normal /\ Q r)) (k : ∀ s',M s' -> Runs gl c b s' Q) : Runs gl c (.seq a b) s Q := by
 obtain ⟨⟨e,s'⟩,h1,h2⟩ := h
 rcases h2 with ⟨rfl,h2⟩ | ⟨h2,h3⟩
 ·obtain ⟨r,h3,h4⟩ := k s' h2
  exact ⟨r,by simp only [exec,h1]; exact h3,h4⟩
 ·refine ⟨(e,s'),?_,h3⟩
  simp only [exec,h1]
  cases e <;> simp_all
theorem Runs.seq' {gl : Nat -> AV} {c : CallV} {a b : AC} {s : St} {M : St -> Prop} {Q : Ex × St -> Prop} (h : ∃ s',exec gl c lpl a s = some (.normal,s') /\ M s') (k : ∀ s',M s' -> Runs gl c b s' Q) : Runs gl c (.seq a b) s Q := by
 obtain ⟨s',h1,h2⟩ := h
 exact Runs.seq ⟨_,h1,.inl ⟨rfl,h2⟩⟩ k
theorem Runs.block {gl : Nat -> AV} {c : CallV} {a : AC} {i : Nat} {s : St} {Q : Ex × St -> Prop} (h : Runs gl c a s fun r => (r.1 = .exit i /\ Q (.normal,r.2)) \/ (r.1 ≠ .exit i /\ Q r)) : Runs gl c (.block i a) s Q := by
 obtain ⟨⟨e,s'⟩,h1,h2⟩ := h
 rcases h2 with ⟨rfl,h2⟩ | ⟨h2,h3⟩
 ·exact ⟨_,by simp only [exec,h1,if_true],h2⟩
 ·refine ⟨(e,s'),?_,h3⟩
  simp only [exec,h1]
  cases e with
  | exit j =>
   have : j ≠ i := fun he => h2 (by rw [he])
   simp only [this,if_false]
  | _ => rfl
theorem Runs.loop {gl : Nat -> AV} {c : CallV} {a : AC} {I : Nat -> St -> Prop} {Q : Ex × St -> Prop} (n : Nat) {s : St} (h0 : I 0 s)
  (step : ∀ i s,i <= n -> I i s -> (i < n /\ ∃ s',exec gl c lpl a s = some (.normal,s') /\ I (i + 1) s') \/ (∃ r,exec gl c lpl a s = some r /\ r.1 ≠ .normal /\ Q r)) : Runs gl c (.loop a) s Q :=
 loop_rule n h0 fun i s hi hI => (step i s hi hI).imp (fun ⟨h1,s',h2,h3⟩ => ⟨s',h2,h1,h3⟩) id
theorem back_same (m : Mem) : m.back { blks := m.blks,touched := [] } = m := by
 cases m; simp [Mem.back,scrubs]
theorem back_more (m : Mem) (l : List Blk) : m.back { blks := m.blks ++ l,touched := [] } = m := by
 cases m; simp [Mem.back,scrubs]
theorem call_fn {C : Cfg} {f : FuncId} {g : AF} {args : List AV} {m : Mem} {ex : Ex} {s' : St} {l : List AV} (hp : C.prim f = none) (hf : C.fs f = some g) (hk : C.keep f = false)
  (hx : exec C.gl (cvl C) lpl g.code { env := args.map (exp m.blks.length false),loc := [],mem := { blks := m.blks,touched := [] } } = some (ex,s')) (hex : ∀ i,ex ≠ .exit i) (hl : gets s' g.results = some l) :
  cvl C (.fn (.func f) [] []) args m = some (frz s'.mem.blks m.blks.length 8 (tupled l),m.back s'.mem) := by
 apply cvl_body
 simp only [body,hp,hf,hk,List.nil_append,List.append_nil,hx]
 cases ex with
 | exit i => exact absurd rfl (hex i)
 | _ => simp only [fin,hl]; rfl
theorem call_keep {C : Cfg} {f : FuncId} {g : AF} {args cap : List AV} {m : Mem} {ex : Ex} {s' : St} {l : List AV} (hp : C.prim f = none) (hf : C.fs f = some g) (hk : C.keep f = true)
  (hx : exec C.gl (cvl C) lpl g.code { env := (args ++ cap).map (exp m.blks.length true),loc := [],mem := { blks := m.blks,touched := [] } } = some (ex,s')) (hex : ∀ i,ex ≠ .exit i) (hl : gets s' g.results = some l) :
  cvl C (.fn (.func f) [] cap) args m = some (exp s'.mem.blks.length true (tupled l),{ blks := s'.mem.blks,touched := m.touched ++ s'.mem.touched }) := by
 apply cvl_body
 simp only [body,hp,hf,hk,List.nil_append,hx]
 cases ex with
 | exit i => exact absurd rfl (hex i)
 | _ => simp only [fin,hl]; rfl
theorem call_runs {C : Cfg} {f : FuncId} {g : AF} {args : List AV} {m : Mem} {v : AV} (hp : C.prim f = none) (hf : C.fs f = some g) (hk : C.keep f = false)
  (hx : Runs C.gl (cvl C) g.code { env := args.map (exp m.blks.length false),loc := [],mem := { blks := m.blks,touched := [] } } fun r =>
   (∀ i,r.1 ≠ .exit i) /\ (∃ bs,r.2.mem = { blks := m.blks ++ bs,touched := [] }) /\ ∃ l,gets r.2 g.results = some l /\ frz r.2.mem.blks m.blks.length 8 (tupled l) = v) : cvl C (.fn (.func f) [] []) args m = some (v,m) := by
 obtain ⟨⟨ex,s'⟩,h1,h2,⟨bs,h3⟩,l,h4,h5⟩ := hx
 rw [call_fn hp hf hk h1 h2 h4]
 dsimp only at h3 h5
 rw [h5,h3,back_more]
end Go.Abs
namespace Go.Abs
theorem Runs.go {gl : Nat -> AV} {c : CallV} {a b : AC} {s s' : St} {Q : Ex × St -> Prop} (h : exec gl c lpl a s = some (.normal,s')) (k : Runs gl c b s' Q) : Runs gl c (.seq a b) s Q :=
 Runs.seq' (M := fun x => x = s') ⟨s',h,rfl⟩ fun _ e => e ▸ k
theorem Runs.mono {gl : Nat -> AV} {c : CallV} {a : AC} {s : St} {Q Q' : Ex × St -> Prop} (h : Runs gl c a s Q) (k : ∀ r,Q r -> Q' r) : Runs gl c a s Q' := by
 obtain ⟨r,h1,h2⟩ := h
 exact ⟨r,h1,k r h2⟩
theorem Runs.no {gl : Nat -> AV} {c : CallV} {a b : AC} {x : Opd} {s : St} {Q : Ex × St -> Prop} (hx : evO gl s.env x = .bool false) (h : Runs gl c b s Q) : Runs gl c (.cond x a b) s Q := by
 obtain ⟨r,h1,h2⟩ := h
 exact ⟨r,by simp [exec,hx,h1],h2⟩
theorem Runs.upto {gl : Nat -> AV} {c : CallV} {a : AC} {I : Nat -> St -> Prop} {Q : Ex × St -> Prop} (n : Nat) {s : St} (h0 : I 0 s)
  (step : ∀ i s,i < n -> I i s -> Runs gl c a s fun r => (r.1 = .normal /\ I (i + 1) r.2) \/ (r.1 ≠ .normal /\ Q r)) (last : ∀ s,I n s -> Runs gl c a s fun r => r.1 ≠ .normal /\ Q r) : Runs gl c (.loop a) s Q := by
 refine Runs.loop n h0 fun i s hi hs => ?_
 rcases Nat.lt_or_ge i n with h | h
 ·obtain ⟨⟨e,s'⟩,h1,h2⟩ := step i s h hs
  rcases h2 with ⟨rfl,h2⟩ | ⟨h2,h3⟩
  ·exact .inl ⟨h,s',h1,h2⟩
  ·exact .inr ⟨_,h1,h2,h3⟩
 ·have : i = n := by omega
  subst this
  obtain ⟨r,h1,h2,h3⟩ := last s hs
  exact .inr ⟨r,h1,h2,h3⟩
theorem keep_runs {C : Cfg} {f : FuncId} {g : AF} {args cap : List AV} {m m' : Mem} {v : AV} (hp : C.prim f = none) (hf : C.fs f = some g) (hk : C.keep f = true)
  (hx : Runs C.gl (cvl C) g.code { env := (args ++ cap).map (exp m.blks.length true),loc := [],mem := { blks := m.blks,touched := [] } } fun r =>
   (∀ i,r.1 ≠ .exit i) /\ (r.2.mem = { blks := m'.blks,touched := [] }) /\ ∃ l,gets r.2 g.results = some l /\ exp m'.blks.length true (tupled l) = v) (ht : m'.touched = m.touched) : cvl C (.fn (.func f) [] cap) args m = some (v,m') := by
 obtain ⟨⟨ex,s'⟩,h1,h2,h3,l,h4,h5⟩ := hx
 rw [call_keep hp hf hk h1 h2 h4]
 dsimp only at h3 h5
 rw [h3]
 cases m'
 simp_all
theorem mod_runs {C : Cfg} {f : FuncId} {g : AF} {fst args cap : List AV} {m : Mem} {v : AV} {B : List Blk} (hp : C.prim f = none) (hf : C.fs f = some g) (hk : C.keep f = false) (hB : B.length = m.blks.length)
  (hx : Runs C.gl (cvl C) g.code { env := (fst ++ args ++ cap).map (exp m.blks.length false),loc := [],mem := { blks := m.blks,touched := [] } } fun r =>
   (∀ i,r.1 ≠ .exit i) /\ (∃ bs,r.2.mem = { blks := B ++ bs,touched := [] }) /\ ∃ l,gets r.2 g.results = some l /\ frz r.2.mem.blks m.blks.length 8 (tupled l) = v) : cvl C (.fn (.func f) fst cap) args m = some (v,{ blks := B,touched := m.touched }) := by
 obtain ⟨⟨ex,s'⟩,h1,h2,⟨bs,h3⟩,l,h4,h5⟩ := hx
 have : cvl C (.fn (.func f) fst cap) args m = some (frz s'.mem.blks m.blks.length 8 (tupled l),m.back s'.mem) := by
  apply cvl_body
  simp only [body,hp,hf,hk,h1]
  cases ex with
  | exit i => exact absurd rfl (h2 i)
  | _ => simp only [fin,h4]; rfl
 rw [this]
 dsimp only at h3 h5
 rw [h5,h3]
 simp [Mem.back,scrubs,<- hB]
theorem clo_runs {C : Cfg} {f : FuncId} {g : AF} {fst args cap : List AV} {m : Mem} {v : AV} (hp : C.prim f = none) (hf : C.fs f = some g) (hk : C.keep f = false)
  (hx : Runs C.gl (cvl C) g.code { env := (fst ++ args ++ cap).map (exp m.blks.length false),loc := [],mem := { blks := m.blks,touched := [] } } fun r =>
   (∀ i,r.1 ≠ .exit i) /\ (∃ bs,r.2.mem = { blks := m.blks ++ bs,touched := [] }) /\ ∃ l,gets r.2 g.results = some l /\ frz r.2.mem.blks m.blks.length 8 (tupled l) = v) : cvl C (.fn (.func f) fst cap) args m = some (v,m) :=
 mod_runs hp hf hk rfl hx
def first {α : Type} (f : α -> Int) : List α -> Int
 | [] => 0
 | x :: l => if f x ≠ 0 then f x else first f l
theorem first_at {α : Type} {f : α -> Int} {l : List α} {i : Nat} (hi : i < l.length) (h : ∀ j (hj : j < l.length),j < i -> f l[j] = 0) (hne : f l[i] ≠ 0) : first f l = f l[i] := by
 induction l generalizing i with
 | nil => simp at hi
 | cons a l ih =>
  cases i with
  | zero => simp only [List.getElem_cons_zero] at hne ⊢; simp [first,hne]
  | succ i =>
   have h0 := h 0 (by simp) (by omega)
   simp only [List.getElem_cons_zero] at h0
   simp only [List.getElem_cons_succ] at hne ⊢
   simp only [first,h0,ne_eq,not_true_eq_false,if_false]
   exact ih (by simpa using hi) (fun j hj hji => by have := h (j + 1) (by simp; omega) (by omega); simpa using this) hne
theorem first_all {α : Type} {f : α -> Int} {l : List α} (h : ∀ j (hj : j < l.length),f l[j] = 0) : first f l = 0 := by
 induction l with
 | nil => rfl
 | cons a l ih =>
  have h0 := h 0 (by simp)
  simp only [List.getElem_cons_zero] at h0
  simp only [first,h0,ne_eq,not_true_eq_false,if_false]
  exact ih fun j hj => by have := h (j + 1) (by simp; omega); simpa using this
theorem first_congr {α : Type} {f g : α -> Int} {l : List α} (h : ∀ x ∈ l,f x = g x) : first f l = first g l := by
 induction l with
 | nil => rfl
 | cons a l ih =>
  simp only [first,h a (by simp),ih fun x hx => h x (by simp [hx])]
theorem before_succ {P : Nat -> Prop} {i n : Nat} (h : ∀ j,j < n -> j < i -> P j) (hi : P i) : ∀ j,j < n -> j < i + 1 -> P j := fun j hj hji => by
 rcases Nat.lt_or_ge j i with h' | h'
 ·exact h j hj h'
 ·have : j = i := by omega
  subst this; exact hi
theorem ne_true {k n : Int} (h : k ≠ n) : (k == n) = false := by simpa using h
theorem bne_true {k n : Int} (h : k ≠ n) : (k != n) = true := by simpa using h
end Go.Abs
namespace Go.Abs
def Row (n : Nat) (bs : List Blk) (sz : Nat) (e : TypeId) (c : Cap) (len : Nat) : Prop := ((c = .nil \/ c = .full) /\ len = 0) \/ ∃ t,c = .own t /\ n <= t /\ bs[t]? = some (.front len sz e)
theorem Row.nil {n : Nat} {bs : List Blk} {sz : Nat} {e : TypeId} : Row n bs sz e .nil 0 := .inl ⟨.inl rfl,rfl⟩
theorem Row.full {n : Nat} {bs : List Blk} {sz : Nat} {e : TypeId} : Row n bs sz e .full 0 := .inl ⟨.inr rfl,rfl⟩
theorem Row.exp' {n : Nat} {bs : List Blk} {sz : Nat} {e : TypeId} {c : Cap} {len : Nat} (h : Row n bs sz e c len) (hl : 0 < len) : c.exp n false = .any := by
 rcases h with ⟨_,rfl⟩ | ⟨t,rfl,h1,h2⟩
 ·omega
 ·simp [Cap.exp]
structure Grew (n : Nat) (bs bs' : List Blk) (e : TypeId) : Prop where
 rows : ∀ sz' e' c' k',e' ≠ e -> Row n bs sz' e' c' k' -> Row n bs' sz' e' c' k'
 len : bs.length <= bs'.length
 old : ∀ t,(∀ k sz,bs[t]? ≠ some (.front k sz e)) -> t < bs.length -> bs'[t]? = bs[t]?
theorem Grew.refl (n : Nat) (bs : List Blk) (e : TypeId) : Grew n bs bs e := ⟨fun _ _ _ _ _ h => h,Nat.le_refl _,fun _ _ _ => rfl⟩
theorem row_app {B ext : List Blk} {ag : Bool} {sz bytes : Nat} {e : TypeId} {c : Cap} {l : List AV} {v : AV} (h : Row B.length (B ++ ext) sz e c l.length) (hl : l.all (shaped ag sz) = true) (hv : shaped ag sz v = true) (hn : nol v = v)
  (hs : 0 < sz) (hb : (l.length + 1) * bytes <= 140737488355328) (hb' : l.length + 1 <= 140737488355328) :
  ∃ c' ext',(∀ T,aApp { blks := B ++ ext,touched := T } ag sz bytes e (.list c l) (.list .full [v]) = some (.list c' (l ++ [v]),{ blks := B ++ ext',touched := T })) /\ Row B.length (B ++ ext') sz e c' (l.length + 1) /\ Grew B.length (B ++ ext) (B ++ ext') e := by
 rcases h with ⟨hc,h0⟩ | ⟨t,rfl,h1,h2⟩
 ·have : l = [] := List.eq_nil_of_length_eq_zero h0
  subst this
  refine ⟨.own (B.length + ext.length),ext ++ [.front 1 sz e],fun T => ?_,.inr ⟨_,rfl,by omega,?_⟩,⟨fun sz' e' c' k' he hr => ?_,by simp,fun t _ ht => ?_⟩⟩
  ·have q1 : bytes <= 140737488355328 := by simpa using hb
   rcases hc with rfl | rfl <;> simp [aApp,hv,hs,Mem.push,Mem.nol,hn,q1]
  ·rw [<- List.append_assoc]
   have : B.length + ext.length = (B ++ ext).length := by simp
   rw [this]; simp
  ·rcases hr with ⟨h1,rfl⟩ | ⟨t,rfl,h1,h2⟩
   ·exact .inl ⟨h1,rfl⟩
   ·refine .inr ⟨t,rfl,h1,?_⟩
    rw [<- List.append_assoc]
    have ht : t < (B ++ ext).length := by
     rcases Nat.lt_or_ge t (B ++ ext).length with h | h
     ·exact h
     ·rw [List.getElem?_eq_none h] at h2; cases h2
    rw [List.getElem?_append_left ht]; exact h2
  ·rw [<- List.append_assoc,List.getElem?_append_left ht]
 ·have ht : t < (B ++ ext).length := by
   rcases Nat.lt_or_ge t (B ++ ext).length with h | h
   ·exact h
   ·rw [List.getElem?_eq_none h] at h2; cases h2
  have hset : (B ++ ext).set t (.front (l.length + 1) sz e) = B ++ ext.set (t - B.length) (.front (l.length + 1) sz e) := by
   rw [List.set_append,if_neg (by omega)]
  refine ⟨.own t,ext.set (t - B.length) (.front (l.length + 1) sz e),fun T => ?_,.inr ⟨t,rfl,h1,?_⟩,⟨fun sz' e' c' k' he hr => ?_,by simp,fun t' hf ht' => ?_⟩⟩
  ·simp only [aApp]
   simp only [List.all_cons,hv,List.all_nil,Bool.and_self,hl,hs,decide_true,List.length_cons,List.length_nil,Nat.zero_add,hb,hb',h2,Bool.true_and,if_true,and_self,List.map_cons,List.map_nil,Mem.nol,hn,Mem.put,hset]
  ·rw [<- hset,List.getElem?_set_self ht]
  ·rcases hr with ⟨h3,rfl⟩ | ⟨t',rfl,h3,h4⟩
   ·exact .inl ⟨h3,rfl⟩
   ·refine .inr ⟨t',rfl,h3,?_⟩
    have : t ≠ t' := by
     rintro rfl
     rw [h2] at h4; cases h4; exact he rfl
    rw [<- hset,List.getElem?_set_ne this]; exact h4
  ·have : t ≠ t' := by
    rintro rfl
    exact hf _ _ h2
   rw [<- hset,List.getElem?_set_ne this]
theorem row_full {B ext : List Blk} {ag : Bool} {sz bytes : Nat} {e : TypeId} {c : Cap} {l : List AV} (hl : l.all (shaped ag sz) = true) (hn : l.map nol = l) (hs : 0 < sz) (hb : l.length * bytes <= 140737488355328) (hb' : l.length <= 140737488355328) :
  ∃ c' ext',(∀ T,aApp { blks := B ++ ext,touched := T } ag sz bytes e (.list .full []) (.list c l) = some (.list c' l,{ blks := B ++ ext',touched := T })) /\ Row B.length (B ++ ext') sz e c' l.length := by
 cases l with
 | nil => exact ⟨.full,ext,fun T => by simp [aApp,hs],Row.full⟩
 | cons a l =>
  refine ⟨.own (B ++ ext).length,ext ++ [.front (l.length + 1) sz e],fun T => ?_,.inr ⟨_,rfl,by simp,?_⟩⟩
  ·have h0 : (([] : List AV).length + (a :: l).length) * bytes <= 140737488355328 := by simpa using hb
   have h1 : ([] : List AV).length + (a :: l).length <= 140737488355328 := by simpa using hb'
   have h2 : ([] : List AV).all (shaped ag sz) = true := rfl
   have h3 : (a :: l).map (Mem.nol { blks := B ++ ext,touched := T }) = a :: l := hn
   unfold aApp
   simp only [hl,h2,hs,decide_true,h0,h1,Bool.and_self,if_true,h3,List.nil_append,Mem.push,List.append_assoc]
   simp
  ·rw [<- List.append_assoc]
   simp
mutual
theorem AV.beq_refl : ∀ a : AV,AV.beq a a = true
 | .undef | .junk | .nilp | .nilfn | .nilif | .nilmap => rfl
 | .int _ _ | .bool _ | .str _ | .lptr _ _ _ | .gptr _ _ | .sl _ _ _ _ _ | .map _ => by simp [AV.beq]
 | .ref l => by simp only [AV.beq]; exact AV.beqs_refl l
 | .list _ l => by simp [AV.beq,AV.beqs_refl l]
 | .agg l => by simp only [AV.beq]; exact AV.beqs_refl l
 | .tup l => by simp only [AV.beq]; exact AV.beqs_refl l
 | .fn _ a b => by simp [AV.beq,AV.beqs_refl a,AV.beqs_refl b]
 | .iface _ v => by simp [AV.beq,AV.beq_refl v]
theorem AV.beqs_refl : ∀ l : List AV,AV.beqs l l = true
 | [] => rfl
 | a :: l => by simp [AV.beqs,AV.beq_refl a,AV.beqs_refl l]
end
structure Lv (n : Nat) (v w : AV) : Prop where
 z : ∀ bs,frz bs n 8 v = w
 n : nol v = v
structure Lvs (ag : Bool) (n sz : Nat) (l ws : List AV) : Prop where
 z : ∀ bs,l.map (frz bs n 8) = ws
 n : l.map nol = l
 s : l.all (shaped ag sz) = true
theorem Lvs.nil {ag : Bool} {n sz : Nat} : Lvs ag n sz [] [] := ⟨fun _ => rfl,rfl,rfl⟩
theorem Lvs.len {ag : Bool} {n sz : Nat} {l ws : List AV} (h : Lvs ag n sz l ws) : l.length = ws.length := by
 have := h.z []
 rw [<- this]; simp
theorem Lvs.snoc {ag : Bool} {n sz : Nat} {l ws : List AV} {v w : AV} (h : Lvs ag n sz l ws) (hv : Lv n v w) (hs : shaped ag sz v = true) : Lvs ag n sz (l ++ [v]) (ws ++ [w]) :=
 ⟨fun bs => by simp [h.z bs,hv.z bs],by simp [h.n,hv.n],by simp only [List.all_append,h.s,List.all_cons,hs,List.all_nil]; rfl⟩
theorem frz_list8 (bs : List Blk) (n : Nat) (c : Cap) (l : List AV) : frz bs n 8 (.list c l) = .list (c.exp n false) (l.map (frz bs n 8)) := by
 simp only [frz,frzW,frzWs_eq]
theorem Lvs.list {ag : Bool} {n sz : Nat} {l ws : List AV} (h : Lvs ag n sz l ws) (c : Cap) : Lv n (.list c l) (.list (c.exp n false) ws) :=
 ⟨fun bs => by rw [frz_list8,h.z],by simp only [nol,nols_eq,h.n]⟩
theorem Lv.str (n : Nat) (s : List Nat) : Lv n (.str s) (.str s) := ⟨fun _ => rfl,rfl⟩
theorem Lv.int (n : Nat) (k : IntKind) (i : Int) : Lv n (.int k i) (.int k i) := ⟨fun _ => rfl,rfl⟩
theorem frz_agg8 (bs : List Blk) (n : Nat) (l : List AV) : frz bs n 8 (.agg l) = .agg (l.map (frz bs n 8)) := by simp only [frz,frzW,frzWs_eq]
theorem Lv.agg {n : Nat} {l ws : List AV} (h : ∀ bs,l.map (frz bs n 8) = ws) (h' : l.map nol = l) : Lv n (.agg l) (.agg ws) := ⟨fun bs => by rw [frz_agg8,h],by simp only [nol,nols_eq,h']⟩
theorem Lvs.of {ag : Bool} {n sz : Nat} {α : Type} (f : α -> AV) (l : List α) (h : ∀ x ∈ l,Lv n (f x) (f x) /\ shaped ag sz (f x) = true) : Lvs ag n sz (l.map f) (l.map f) := by
 refine ⟨fun bs => ?_,?_,?_⟩
 ·rw [List.map_map]; exact List.map_congr_left fun x hx => (h x hx).1.z bs
 ·rw [List.map_map]; exact List.map_congr_left fun x hx => (h x hx).1.n
 ·simp only [List.all_map,List.all_eq_true,Function.comp]; exact fun x hx => (h x hx).2
end Go.Abs
namespace Go.Abs
def ghW (w : World) : Gh := ⟨fun b o => w.cell? ⟨b,o,none⟩,fun _ => none,fun _ _ => none⟩
theorem memR_ghW (w : World) (own : OW) (LC : LCR) : MemR (ghW w) own LC { blks := [],touched := [] } w :=
 ⟨fun _ _ h => (by cases h),fun _ _ _ h => (by cases h),fun _ _ h => (by simp at h),fun _ _ _ h => h⟩
theorem ownR_none (w : World) : OwnR w.heap.size (fun _ => none) w := ⟨fun _ _ h => (by cases h),Nat.le_refl _⟩
section
variable {H : Type} {enc : TypeId × Value -> H} {P : Program} {w : World} {base : Nat} {spare : Nat -> Bool} {held : Bool}
theorem vr_slice {t e : TypeId} (hu : P.underlying t = some (.slice e)) {A : AV -> DataW H -> Prop} {sz : Nat} (hsz : P.cellsOf e = sz) (h0 : 0 < sz) {fuel : Nat} {cs : List Value} {x : DataW H × List MemPlace}
  (helem : ∀ n,n < fuel -> ∀ cs y,DataW.trod enc P w base spare held n e cs = some y -> cs.length = sz →
   ∃ el,A el y.1 /\ PW (VR (ghW w) noLB) el.cells cs /\ ∀ v ∈ cs,v.oneCell' = true)
  (h : DataW.trod enc P w base spare held fuel t cs = some x) :
  ∃ v : Value,cs = [v] /\ v.oneCell' = true /\ ((VR (ghW w) noLB (.list .nil []) v /\ x.1 = .nil) \/ ∃ (l : List AV) (ds rest : List (DataW H)),VR (ghW w) noLB (.list .any l) v /\ x.1 = .slice ds rest /\ l.length = ds.length ∧
   ∀ i (h : i < l.length) (h' : i < ds.length),A l[i] ds[i]) := by
 rcases DataW.trod_slice hu h with ⟨rfl,rfl⟩ | ⟨a,len,cap,elems,rest,n,rfl,rfl,rfl,hb,hlc,hcm,hel,hread,-,-⟩
 ·exact ⟨_,rfl,rfl,.inl ⟨.listNil _,rfl⟩⟩
 ·rw [hsz] at hread
  have each : ∀ i (hi : i < len),∃ el cs,A el (elems[i]'(by omega)).1 /\ PW (VR (ghW w) noLB) el.cells cs /\ (∀ v ∈ cs,v.oneCell' = true) /\ cs.length = sz /\ ∀ j,j < sz -> w.cell? ((a.add (i * sz)).add j) = cs[j]? := by
   intro i hi
   have hr := hread i hi
   rw [List.getElem?_eq_getElem (by omega)] at hr
   obtain ⟨cs',hc',ht⟩ := Option.bind_eq_some_iff.1 hr
   obtain ⟨-,hl,hcell⟩ := World.cells?_some hc'
   obtain ⟨el,k1,k2,k3⟩ := helem n (by omega) cs' _ ht hl
   exact ⟨el,cs',k1,k2,k3,hl,hcell⟩
  by_cases hlen : len = 0
  ·subst hlen
   exact ⟨_,rfl,rfl,.inr ⟨[],_,_,.listE _ _ _ _ (.inl rfl),rfl,by simpa using hel.symm,fun i h => absurd h (Nat.not_lt_zero _)⟩⟩
  ·obtain ⟨b,o,spot⟩ := a
   have hspot : spot = none := by
    obtain ⟨el,cs',-,-,-,hl,hcell⟩ := each 0 (by omega)
    have g0 := hcell 0 h0
    rw [List.getElem?_eq_getElem (by omega)] at g0
    simpa [Addr.add] using World.cell?_spot g0
   subst hspot
   have hex : ∃ F : Nat -> AV × List Value,∀ i (hi : i < len),A (F i).1 (elems[i]'(by omega)).1 /\ PW (VR (ghW w) noLB) (F i).1.cells (F i).2 /\ (∀ v ∈ (F i).2,v.oneCell' = true) /\ (F i).2.length = sz ∧
     ∀ j,j < sz -> w.cell? ⟨b,o + (i * sz + j),none⟩ = (F i).2[j]? := by
    refine ⟨fun i => if hi : i < len then ((each i hi).choose,(each i hi).choose_spec.choose) else (.undef,[]),fun i hi => ?_⟩
    simp only [dif_pos hi]
    obtain ⟨k1,k2,k3,k4,k5⟩ := (each i hi).choose_spec.choose_spec
    refine ⟨k1,k2,k3,k4,fun j hj => ?_⟩
    rw [<- k5 j hj,Addr.add_mid,Addr.add_mid,Nat.add_assoc]
   obtain ⟨F,hF⟩ := hex
   refine ⟨_,rfl,rfl,.inr ⟨(List.range len).map fun i => (F i).1,_,_,?_,rfl,by simp [hel],fun i hi hi' => ?_⟩⟩
   ·refine .list _ .any _ b o sz len cap (fun i j => (F i).2.getD j Go.undef) (by simp) hlc trivial (fun e he => ?_) (fun i hi j hj => ?_) (fun i hi j hj => ?_)
    ·obtain ⟨i,hi,rfl⟩ := List.mem_map.1 he
     have hi := List.mem_range.1 hi
     obtain ⟨k1,k2,k3,k4,k5⟩ := hF i hi
     rw [k2.1,k4]
    ·obtain ⟨k1,k2,k3,k4,k5⟩ := hF i hi
     have e1 : (F i).2[j]? = some (F i).2[j] := List.getElem?_eq_getElem (by omega)
     refine ⟨?_,?_⟩
     ·show w.cell? ⟨b,o + (i * sz + j),none⟩ = _
      rw [k5 j hj,e1,List.getD_eq_getElem?_getD,e1]; rfl
     ·rw [List.getD_eq_getElem?_getD,e1]; exact k3 _ (List.getElem_mem _)
    ·have hi' : i < len := by simpa using hi
     obtain ⟨k1,k2,k3,k4,k5⟩ := hF i hi'
     simp only [List.getElem_map,List.getElem_range] at hj ⊢
     have hj2 : j < (F i).2.length := by rw [<- k2.1]; exact hj
     have := k2.2 j hj hj2
     rw [List.getD_eq_getElem?_getD,List.getElem?_eq_getElem hj2]
     exact this
   ·have hi2 : i < len := by simpa using hi
    simp only [List.getElem_map,List.getElem_range]
    exact (hF i hi2).1
end
end Go.Abs
