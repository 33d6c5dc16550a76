/- Library functions that are answered by a law of their own: what they leave. -/
import Derived.Test.YtiigojkfojnedaaGreatDoorXCd
import Derived.Test.YtiigojkfojnedaaGreatDoorXB
set_option linter.unusedVariables false
set_option linter.unusedSimpArgs false
namespace Go.Abs
open Go.RowKit (Below)

section
variable {F : Fence} {n : Nat} {P : Program} {gl : Nat → AV} {base : Nat} {LC : LCR} {g : Gh} {own : OW} {mem : Mem} {w w' : World} {r : AV} {x : Value}

/-- A call that leaves all old blocks as they were. -/
theorem callPost_below (hm : MemR g own LC mem w) (ho : OwnR base own w) (hgl : GlR g gl) (hb : Below w.heap.size w w') (hv : VR g noLB r x) : CallPost base LC gl g own w r mem x w' := by
  obtain ⟨h1, h2, h3, h4, h5⟩ := hb
  refine ⟨g, ownM own, ⟨g.sub_refl, h4, h1, h2, h3, fun b hb _ => h5 b hb, fun _ _ h => by simpa [ownM] using h, fun _ _ _ _ => rfl⟩, ?_, hv, ⟨fun b o hb => ?_, Nat.le_trans ho.base h4⟩, fun b d hb => ?_, hgl⟩
  · refine hm.keep g.sub_refl (fun _ h => h) (fun _ _ h => h) (fun id b hb => ⟨by rw [ownM_m hb, hb], h5 b (ho.ge b _ hb).2, fun _ => rfl⟩) (fun b o y hy => ?_)
    have hc := hm.im b o y hy
    rw [cell?_of_heap (h5 b (cell_lt hc))]; exact hc
  · have := ho.ge b o (ownM_some hb).1
    exact ⟨this.1, Nat.lt_of_lt_of_le this.2 h4⟩
  · obtain ⟨_, id, h⟩ := ownM_some hb; cases h

/-- A function with a body, by its contract. -/
theorem calledR_of_calls {f : FuncId} {fn : Func} {vargs : Array Value} (hf : P.funcs[f]? = some fn) (hb : fn.body.isNone = false) (hn : (fn.name == "runtime.NumGoroutine") = false) {R : Value → World → Prop}
    (h : CallsIn F n P f vargs w fun e w' => ∃ x, e = .returned x ∧ R x w') : CalledR F n P ((callFunc f vargs).run P w) w R :=
  .inl ⟨f, vargs, run_callFunc hf hb hn, h⟩

theorem pw1 {R : AV → Value → Prop} {a : AV} {vargs : Array Value} (h : PW R [a] vargs.toList) : ∃ x, vargs = #[x] ∧ R a x := by
  obtain ⟨l⟩ := vargs
  match l, h with
  | [x], h => exact ⟨x, rfl, h.2 0 (by simp) (by simp)⟩
  | [], h => exact absurd h.1 (by simp)
  | _ :: _ :: _, h => exact absurd h.1 (by simp)
theorem pw2 {R : AV → Value → Prop} {a b : AV} {vargs : Array Value} (h : PW R [a, b] vargs.toList) : ∃ x y, vargs = #[x, y] ∧ R a x ∧ R b y := by
  obtain ⟨l⟩ := vargs
  match l, h with
  | [x, y], h => exact ⟨x, y, rfl, h.2 0 (by simp) (by simp), h.2 1 (by simp) (by simp)⟩
  | [], h => exact absurd h.1 (by simp)
  | [_], h => exact absurd h.1 (by simp)
  | _ :: _ :: _ :: _, h => exact absurd h.1 (by simp)

end
end Go.Abs

/- The limit of the executor: calls and loops without a count. -/
namespace Go.Abs
open Classical

/-- A call's answer at some depth. -/
noncomputable def cvl (C : Cfg) : CallV := fun fv args mem =>
  if h : ∃ r k, cv C k fv args mem = some r then some h.choose else none

noncomputable def lpl : LoopV := fun b s => if h : ∃ r n, aloop n b s = some r then some h.choose else none

theorem cvl_iff {C : Cfg} {fv args mem r} : cvl C fv args mem = some r ↔ ∃ k, cv C k fv args mem = some r := by
  unfold cvl
  split
  · rename_i h
    obtain ⟨k, hk⟩ := h.choose_spec
    constructor
    · intro he; cases he; exact ⟨k, hk⟩
    · rintro ⟨k', hk'⟩
      have h1 := cv_mono C (Nat.le_max_left k k') _ _ _ _ hk
      have h2 := cv_mono C (Nat.le_max_right k k') _ _ _ _ hk'
      rw [h1] at h2; exact h2
  · rename_i h
    constructor
    · intro he; cases he
    · rintro ⟨k, hk⟩; exact absurd ⟨r, k, hk⟩ h

theorem aloop_mono' {b : St → Option (Ex × St)} {n m : Nat} (h : n ≤ m) {s r} (hr : aloop n b s = some r) : aloop m b s = some r :=
  aloop_mono n m h b b (fun _ _ h => h) s r hr

theorem lpl_iff {b s r} : lpl b s = some r ↔ ∃ n, aloop n b s = some r := by
  unfold lpl
  split
  · rename_i h
    obtain ⟨k, hk⟩ := h.choose_spec
    constructor
    · intro he; cases he; exact ⟨k, hk⟩
    · rintro ⟨k', hk'⟩
      have h1 := aloop_mono' (Nat.le_max_left k k') hk
      have h2 := aloop_mono' (Nat.le_max_right k k') hk'
      rw [h1] at h2; exact h2
  · rename_i h
    constructor
    · intro he; cases he
    · rintro ⟨k, hk⟩; exact absurd ⟨r, k, hk⟩ h

theorem cv_le_cvl (C : Cfg) (k : Nat) : (cv C k).le (cvl C) := fun _ _ _ _ h => cvl_iff.2 ⟨k, h⟩
theorem aloop_le_lpl (n : Nat) : LoopV.le (aloop n) lpl := fun b b' hb s r hr => lpl_iff.2 ⟨n, aloop_mono n n (Nat.le_refl _) b b' hb s r hr⟩

theorem aloop_succ (n : Nat) (b : St → Option (Ex × St)) (s : St) : aloop (n + 1) b s = match b s with
    | some (.normal, s') => aloop n b s'
    | r => r := rfl

/-- A loop's first round. -/
theorem lpl_normal {b : St → Option (Ex × St)} {s s' : St} (h : b s = some (.normal, s')) : lpl b s = lpl b s' := by
  apply Option.ext
  intro r
  rw [lpl_iff, lpl_iff]
  constructor
  · rintro ⟨n, hn⟩
    cases n with
    | zero => simp [aloop] at hn
    | succ n => rw [aloop_succ, h] at hn; exact ⟨n, hn⟩
  · rintro ⟨n, hn⟩
    exact ⟨n + 1, by rw [aloop_succ, h]; exact hn⟩

theorem lpl_out {b : St → Option (Ex × St)} {s : St} {r : Ex × St} (h : b s = some r) (hr : r.1 ≠ .normal) : lpl b s = some r := by
  rw [lpl_iff]
  refine ⟨1, ?_⟩
  rw [aloop_succ, h]
  obtain ⟨e, s'⟩ := r
  cases e <;> simp_all

/-! ### continuity -/
section
variable {C : Cfg} {gl : Nat → AV}

theorem aop_cont {ev lk mem dst o r} (h : aop ev lk mem (cvl C) dst o = some r) : ∃ k, aop ev lk mem (cv C k) dst o = some r := by
  cases o
  case call f args =>
    simp only [aop, Option.map_eq_some_iff] at h ⊢
    obtain ⟨x, hx, hr⟩ := h
    obtain ⟨k, hk⟩ := cvl_iff.1 hx
    exact ⟨k, x, hk, hr⟩
  all_goals exact ⟨0, h⟩

theorem astep_cont {o s r} (h : astep gl (cvl C) o s = some r) : ∃ k, astep gl (cv C k) o s = some r := by
  unfold astep at h ⊢
  split at h
  · cases h
  · split at h
    · rename_i he
      obtain ⟨k, hk⟩ := aop_cont he
      exact ⟨k, by rw [hk]; exact h⟩
    · cases h
  · exact ⟨0, h⟩

theorem aops_cont {l s r} (h : aops gl (cvl C) l s = some r) : ∃ k, aops gl (cv C k) l s = some r := by
  induction l generalizing s with
  | nil => exact ⟨0, h⟩
  | cons o l ih =>
    simp only [aops] at h ⊢
    split at h
    · rename_i s' he
      obtain ⟨k1, h1⟩ := astep_cont he
      obtain ⟨k2, h2⟩ := ih h
      refine ⟨max k1 k2, ?_⟩
      rw [astep_mono (cv_mono C (Nat.le_max_left _ _)) h1]
      exact aops_mono (cv_mono C (Nat.le_max_right _ _)) h2
    · cases h

theorem ascan_cont {l s r} (h : ascan gl (cvl C) l s = some r) : ∃ k, ascan gl (cv C k) l s = some r := by
  induction l generalizing s r with
  | nil => exact ⟨0, h⟩
  | cons o l ih =>
    simp only [ascan] at h ⊢
    split at h
    · rename_i s' he
      simp only [Option.map_eq_some_iff] at h
      obtain ⟨x, hx, rfl⟩ := h
      obtain ⟨k1, h1⟩ := astep_cont he
      obtain ⟨k2, h2⟩ := ih hx
      refine ⟨max k1 k2, ?_⟩
      rw [astep_mono (cv_mono C (Nat.le_max_left _ _)) h1]
      simp only [ascan_mono (cv_mono C (Nat.le_max_right _ _)) h2, Option.map_some]
    · cases h

theorem adraw_cont {l cf af s r} (h : adraw gl (cvl C) l cf af s = some r) : ∃ k, adraw gl (cv C k) l cf af s = some r := by
  unfold adraw at h ⊢
  split at h
  · rename_i tr he
    obtain ⟨k, hk⟩ := ascan_cont he
    exact ⟨k, by rw [hk]; exact h⟩
  · cases h

theorem exec_up {k k' : Nat} (hk : k ≤ k') {a : AC} {s r} (h : exec gl (cv C k) (aloop k) a s = some r) : exec gl (cv C k') (aloop k') a s = some r :=
  exec_mono (cv_mono C hk) (aloop_mono _ _ hk) a s r h

theorem exec_cont (a : AC) : ∀ s r, exec gl (cvl C) lpl a s = some r → ∃ k, exec gl (cv C k) (aloop k) a s = some r := by
  induction a with
  | skip => intro s r h; exact ⟨0, h⟩
  | ops l =>
    intro s r h
    simp only [exec, Option.map_eq_some_iff] at h ⊢
    obtain ⟨x, hx, hr⟩ := h
    obtain ⟨k, hk⟩ := aops_cont hx
    exact ⟨k, x, hk, hr⟩
  | draw l cf af =>
    intro s r h
    simp only [exec, Option.map_eq_some_iff] at h ⊢
    obtain ⟨x, hx, hr⟩ := h
    obtain ⟨k, hk⟩ := adraw_cont hx
    exact ⟨k, x, hk, hr⟩
  | seq a b iha ihb =>
    intro s r h
    simp only [exec] at h
    split at h
    · rename_i s' he
      obtain ⟨k1, h1⟩ := iha _ _ he
      obtain ⟨k2, h2⟩ := ihb _ _ h
      exact ⟨max k1 k2, by simp only [exec, exec_up (Nat.le_max_left k1 k2) h1]; exact exec_up (Nat.le_max_right k1 k2) h2⟩
    · rename_i hne
      obtain ⟨k1, h1⟩ := iha _ _ h
      refine ⟨k1, ?_⟩
      simp only [exec, h1]
      split
      · rename_i he; cases he; exact absurd h (hne _)
      · rfl
  | cond x a b iha ihb =>
    intro s r h
    simp only [exec] at h ⊢
    split at h
    · split at h
      · rename_i he ht
        obtain ⟨k, hk⟩ := iha _ _ h
        exact ⟨k, by simp only [ht, if_true]; exact hk⟩
      · rename_i he ht
        obtain ⟨k, hk⟩ := ihb _ _ h
        exact ⟨k, by simp only [ht]; exact hk⟩
    · cases h
  | block id a iha =>
    intro s r h
    simp only [exec] at h ⊢
    split at h
    · rename_i he
      obtain ⟨k, hk⟩ := iha _ _ he
      exact ⟨k, by rw [hk]; exact h⟩
    · rename_i hne
      obtain ⟨k, hk⟩ := iha _ _ h
      refine ⟨k, ?_⟩
      rw [hk]
      split
      · rename_i he; cases he; exact absurd h (hne _ _)
      · rfl
  | loop a iha =>
    intro s r h
    simp only [exec] at h ⊢
    obtain ⟨n, hn⟩ := lpl_iff.1 h
    have : ∀ n s, aloop n (exec gl (cvl C) lpl a) s = some r → ∃ k, aloop k (exec gl (cv C k) (aloop k) a) s = some r := by
      intro n
      induction n with
      | zero => intro s h; simp [aloop] at h
      | succ n ih =>
        intro s h
        simp only [aloop] at h
        split at h
        · rename_i s' he
          obtain ⟨k1, h1⟩ := iha _ _ he
          obtain ⟨k2, h2⟩ := ih _ h
          refine ⟨max k1 k2 + 1, ?_⟩
          rw [aloop_succ, exec_up (show k1 ≤ max k1 k2 + 1 by omega) h1]
          exact aloop_mono _ _ (show k2 ≤ max k1 k2 by omega) _ _ (fun s r h => exec_up (show k2 ≤ max k1 k2 + 1 by omega) h) _ _ h2
        · rename_i hne
          obtain ⟨k1, h1⟩ := iha _ _ h
          refine ⟨k1 + 1, ?_⟩
          rw [aloop_succ, exec_up (show k1 ≤ k1 + 1 by omega) h1]
          split
          · rename_i he; cases he; exact absurd h (hne _)
          · rfl
    exact this n s hn
  | exit id => intro s r h; exact ⟨0, h⟩
  | ret => intro s r h; exact ⟨0, h⟩
  | rfun f ps asg body _ _ =>
    intro s r h
    simp only [exec] at h ⊢
    split at h
    · rename_i he
      obtain ⟨fv, h1, h2⟩ := Option.bind_eq_some_iff.1 he
      obtain ⟨k, hk⟩ := cvl_iff.1 h2
      refine ⟨k, ?_⟩
      rw [h1]
      simp only [Option.bind_some, hk]; exact h
    · cases h
  | bad => intro s r h; exact ⟨0, h⟩

theorem round_cont {l args mem r} (h : round (exec gl (cvl C) lpl) l args mem = some r) : ∃ k, round (exec gl (cv C k) (aloop k)) l args mem = some r := by
  unfold round at h ⊢
  split at h
  · split at h
    · rename_i hlen
      simp only [hlen, if_true]
      split at h
      · rename_i he
        obtain ⟨k1, h1⟩ := exec_cont _ _ _ he
        split at h
        · rename_i hls
          split at h
          · rename_i he2
            obtain ⟨k2, h2⟩ := exec_cont _ _ _ he2
            exact ⟨max k1 k2, by simp only [exec_up (Nat.le_max_left k1 k2) h1, hls, if_true, exec_up (Nat.le_max_right k1 k2) h2]; exact h⟩
          · rename_i he2
            obtain ⟨k2, h2⟩ := exec_cont _ _ _ he2
            exact ⟨max k1 k2, by simp only [exec_up (Nat.le_max_left k1 k2) h1, hls, if_true, exec_up (Nat.le_max_right k1 k2) h2]; exact h⟩
          · rename_i he2
            obtain ⟨k2, h2⟩ := exec_cont _ _ _ he2
            exact ⟨max k1 k2, by simp only [exec_up (Nat.le_max_left k1 k2) h1, hls, if_true, exec_up (Nat.le_max_right k1 k2) h2]; exact h⟩
          · cases h
        · cases h
      · cases h
    · cases h
  · cases h

/-- **A call is its function's code.** -/
theorem cvl_body {fv args mem r} (h : body C (cvl C) lpl fv args mem = some r) : cvl C fv args mem = some r := by
  apply cvl_iff.2
  unfold body at h
  split at h
  · split at h
    · rename_i p hp
      exact ⟨1, by simp only [cv, body, hp]; exact h⟩
    · rename_i hp
      split at h
      · rename_i g hg
        generalize he : exec C.gl (cvl C) lpl _ _ = x at h
        cases x with
        | none => simp [fin] at h
        | some x =>
          obtain ⟨k, hk⟩ := exec_cont _ _ _ he
          exact ⟨k + 1, by simp only [cv, body, hp, hg, hk]; exact h⟩
      · cases h
  · obtain ⟨k, hk⟩ := round_cont h
    exact ⟨k + 1, by simp only [cv, body]; exact hk⟩
  · cases h

end
end Go.Abs
