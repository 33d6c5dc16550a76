/- A text of this proof. -/
import Derived.Test.YtiigojkfojnedaaGreatDoorPR
set_option linter.unusedVariables false
set_option linter.unusedSimpArgs false
namespace Go.Abs
structure KM (m m' : Mem) : Prop where
 len : m.blks.length <= m'.blks.length
 touched : ∀ id,id ∈ m.touched -> id ∈ m'.touched
 cells : ∀ id l',m'.blks[id]? = some (.cells l') -> id < m.blks.length -> id ∉ m'.touched -> ∀ v ∈ l',(∃ l,m.blks[id]? = some (.cells l) /\ v ∈ l) \/ lo id v = true
theorem KM.refl (m : Mem) : KM m m := ⟨Nat.le_refl _,fun _ h => h,fun _ l' h _ _ _ hv => .inl ⟨l',h,hv⟩⟩
theorem KM.trans {a b c : Mem} (h : KM a b) (k : KM b c) : KM a c := {
 len := Nat.le_trans h.len k.len
 touched id hid := k.touched id (h.touched id hid)
 cells id l' hl hid hnt v hv := by
  rcases k.cells id l' hl (Nat.lt_of_lt_of_le hid h.len) hnt v hv with ⟨l,h1,h2⟩ | h1
  ·exact h.cells id l h1 hid (fun hn => hnt (k.touched id hn)) v h2
  ·exact .inr h1 }
theorem KM.push (m : Mem) (b : Blk) : KM m (m.push b) := {
 len := by simp [Mem.push]
 touched _ h := h
 cells id l' hl hid _ v hv := by
  simp only [Mem.push] at hl
  rw [List.getElem?_append_left hid] at hl
  exact .inl ⟨l',hl,hv⟩ }
theorem KM.set {m : Mem} {i : Nat} {b : Blk} (hb : ∀ l,b ≠ .cells l) (t : Bool) : KM m (m.put i b t) := {
 len := by simp [Mem.put]
 touched id h := by simp only [Mem.put]; split <;> simp [h]
 cells id l' hl _ _ v hv := by
  simp only [Mem.put,List.getElem?_set] at hl
  split at hl
  ·split at hl
   ·cases hl; exact absurd rfl (hb _)
   ·cases hl
  ·exact .inl ⟨l',hl,hv⟩ }
def KC (c : CallV) : Prop := ∀ fv args m r m',c fv args m = some (r,m') -> KM m m'
theorem wr_K {lk mem p vs u m'} (h : wr lk mem p vs = some (u,m')) : KM mem m' := by
 unfold wr at h
 split at h
 ·split at h
  ·split at h
   ·simp only [Option.some.injEq,Prod.mk.injEq] at h; rw [<- h.2]; exact KM.refl _
   ·cases h
  ·cases h
 ·split at h
  ·rename_i id off _ l hb
   split at h
   ·simp only [Option.some.injEq,Prod.mk.injEq] at h
    rw [<- h.2]
    refine ⟨by simp [Mem.put],fun i hi => by simp only [Mem.put]; split <;> simp [hi],fun i l' hl hi hnt v hv => ?_⟩
    simp only [Mem.put,List.getElem?_set] at hl hnt
    split at hl
    ·rename_i hie; subst hie
     split at hl
     ·simp only [Option.some.injEq,Blk.cells.injEq] at hl
      subst hl
      have hlo : los id (vs.map mem.nol) = true := by
       cases hc : los id (vs.map mem.nol) with
       | true => rfl
       | false => rw [hc] at hnt; simp at hnt
      unfold splice at hv
      rcases List.mem_append.1 hv with hv | hv
      ·rcases List.mem_append.1 hv with hv | hv
       ·exact .inl ⟨l,hb,List.mem_of_mem_take hv⟩
       ·right
        rw [los_eq,List.all_eq_true] at hlo
        exact hlo v hv
      ·exact .inl ⟨l,hb,List.mem_of_mem_drop hv⟩
     ·omega
    ·exact .inl ⟨l',hl,hv⟩
   ·cases h
  ·cases h
 ·cases h
theorem newVar_K {lk mem glob dst l v u m'} (h : newVar lk mem glob dst l = some (v,u,m')) : KM mem m' := by
 unfold newVar at h
 split at h
 ·simp only [Option.some.injEq,Prod.mk.injEq] at h; rw [<- h.2.2]; exact KM.push _ _
 ·split at h
  ·simp only [Option.some.injEq,Prod.mk.injEq] at h; rw [<- h.2.2]; exact KM.refl _
  ·cases h
theorem aApp_K {mem ag sz bytes e x y v m'} (h : aApp mem ag sz bytes e x y = some (v,m')) : KM mem m' := by
 unfold aApp at h
 split at h
 ·split at h
  ·split at h
   ·simp only [Option.some.injEq,Prod.mk.injEq] at h; rw [<- h.2]; exact KM.refl _
   ·simp only [Option.some.injEq,Prod.mk.injEq] at h; rw [<- h.2]; exact KM.push _ _
   ·simp only [Option.some.injEq,Prod.mk.injEq] at h; rw [<- h.2]; exact KM.push _ _
   ·split at h
    ·split at h
     ·simp only [Option.some.injEq,Prod.mk.injEq] at h; rw [<- h.2]; exact KM.set (fun _ h => by cases h) _
     ·cases h
    ·cases h
   ·cases h
  ·cases h
 ·cases h
theorem aop_K {ev lk mem dst o v u m'} {c : CallV} (hc : KC c) (h : aop ev lk mem c dst o = some (v,u,m')) : KM mem m' := by
 cases o <;> simp only [aop] at h
 case bad => cases h
 case alloc => exact newVar_K h
 case box =>
  split at h
  ·exact newVar_K h
  ·cases h
 case st =>
  split at h
  ·simp only [Option.map_eq_some_iff,Prod.mk.injEq,Prod.exists] at h
   obtain ⟨_,_,h1,_,_,rfl⟩ := h
   exact wr_K h1
  ·cases h
 case mapup =>
  (repeat' split at h) <;> first | (cases h; done) | skip
  simp only [Option.map_eq_some_iff,Prod.mk.injEq] at h
  obtain ⟨_,_,_,_,rfl⟩ := h
  exact KM.set (fun _ h => by cases h) _
 case del =>
  (repeat' split at h) <;> first | (cases h; done) | skip
  simp only [Option.map_eq_some_iff,Prod.mk.injEq] at h
  obtain ⟨_,_,_,_,rfl⟩ := h
  exact KM.set (fun _ h => by cases h) _
 case abld =>
  simp only [Option.some.injEq,Prod.mk.injEq] at h; rw [<- h.2.2]; exact KM.push _ _
 case mkmap =>
  simp only [Option.some.injEq,Prod.mk.injEq] at h; rw [<- h.2.2]; exact KM.push _ _
 case mkslc =>
  (repeat' split at h) <;> first | (cases h; done) | skip
  simp only [Option.some.injEq,Prod.mk.injEq] at h; rw [<- h.2.2]; exact KM.push _ _
 case cpy =>
  (repeat' split at h) <;> first | (cases h; done) | skip
  simp only [Option.map_eq_some_iff,Prod.mk.injEq,Prod.exists] at h
  obtain ⟨_,_,h1,_,_,rfl⟩ := h
  exact wr_K h1
 case clr =>
  split at h
  ·simp only [Option.some.injEq,Prod.mk.injEq] at h; rw [<- h.2.2]; exact KM.refl _
  ·split at h
   ·simp only [Option.some.injEq,Prod.mk.injEq] at h; rw [<- h.2.2]; exact KM.refl _
   ·simp only [Option.map_eq_some_iff,Prod.mk.injEq,Prod.exists] at h
    obtain ⟨_,_,h1,_,_,rfl⟩ := h
    exact wr_K h1
  ·cases h
 case call =>
  simp only [Option.map_eq_some_iff,Prod.mk.injEq,Prod.exists] at h
  obtain ⟨_,_,h1,_,_,rfl⟩ := h
  exact hc _ _ _ _ _ h1
 case app =>
  simp only [Option.map_eq_some_iff,Prod.mk.injEq,Prod.exists] at h
  obtain ⟨_,_,h1,_,_,rfl⟩ := h
  exact aApp_K h1
 all_goals
  (repeat' split at h) <;> first
   | (cases h; done)
   | (simp only [Option.some.injEq,Prod.mk.injEq] at h; obtain ⟨_,_,rfl⟩ := h; exact KM.refl _)
   | (simp only [Option.map_eq_some_iff,Prod.mk.injEq] at h; obtain ⟨_,_,_,_,rfl⟩ := h; exact KM.refl _)
   | (simp only [Option.map_eq_some_iff] at h; obtain ⟨_,_,h⟩ := h; (repeat' split at h) <;> (simp only [Prod.mk.injEq] at h; obtain ⟨_,_,rfl⟩ := h; exact KM.refl _))
theorem astep_K {gl o s s'} {c : CallV} (hc : KC c) (h : astep gl c o s = some s') : KM s.mem s'.mem := by
 unfold astep at h
 split at h
 ·cases h
 ·split at h
  ·rename_i he; cases h; exact aop_K hc he
  ·cases h
 ·cases h; exact KM.refl _
theorem aops_K {gl l s s'} {c : CallV} (hc : KC c) (h : aops gl c l s = some s') : KM s.mem s'.mem := by
 induction l generalizing s with
 | nil => cases h; exact KM.refl _
 | cons o l ih =>
  simp only [aops] at h
  split at h
  ·rename_i he; exact (astep_K hc he).trans (ih h)
  ·cases h
theorem ascan_last {gl l s tr} {c : CallV} (h : ascan gl c l s = some tr) : tr.length = l.length + 1 /\ tr[0]? = some s /\ tr.getLast? = aops gl c l s ∧
  ∀ i (hi : i < l.length),∃ si si',tr[i]? = some si /\ tr[i + 1]? = some si' /\ astep gl c l[i] si = some si' := by
 induction l generalizing s tr with
 | nil => cases h; exact ⟨rfl,rfl,rfl,fun i hi => by simp at hi⟩
 | cons o l ih =>
  simp only [ascan] at h
  split at h
  ·rename_i s' he
   simp only [Option.map_eq_some_iff] at h
   obtain ⟨tr',h1,rfl⟩ := h
   obtain ⟨k1,k2,k3,k4⟩ := ih h1
   refine ⟨by simp [k1],rfl,?_,fun i hi => ?_⟩
   ·simp only [aops,he,<- k3]
    cases tr' with
    | nil => simp at k1
    | cons a t => simp
   ·cases i with
    | zero => exact ⟨s,s',rfl,by simpa using k2,he⟩
    | succ i => simpa using k4 i (by simpa using hi)
  ·cases h
theorem adraw_aops {gl l cf af s s'} {c : CallV} (h : adraw gl c l cf af s = some s') : aops gl c l s = some s' := by
 unfold adraw at h
 split at h
 ·rename_i tr htr
  split at h
  ·rw [<- (ascan_last htr).2.2.1]; exact h
  ·cases h
 ·cases h
theorem scrubs_other {n : Nat} : ∀ (t : List Nat) (bs : List Blk) (id : Nat),id ∉ t -> (scrubs n t bs)[id]? = bs[id]?
 | [],_,_,_ => rfl
 | i :: t,bs,id,h => by
  simp only [List.mem_cons,not_or] at h
  simp only [scrubs]
  rw [scrubs_other t _ id h.2]
  split
  ·rw [List.getElem?_set_ne (fun e => h.1 e.symm)]
  ·rfl
theorem scrubs_length {n : Nat} : ∀ (t : List Nat) (bs : List Blk),(scrubs n t bs).length = bs.length
 | [],_ => rfl
 | i :: t,bs => by
  simp only [scrubs]
  rw [scrubs_length t]
  split <;> simp
theorem back_len {m0 m : Mem} (h : m0.blks.length <= m.blks.length) : (m0.back m).blks.length = m0.blks.length := by
 simp only [Mem.back,scrubs_length,List.length_take]; omega
theorem back_K {m0 m : Mem} (hlen : m0.blks.length <= m.blks.length)
  (hc : ∀ id l',m.blks[id]? = some (.cells l') -> id < m0.blks.length -> id ∉ m.touched -> ∀ v ∈ l',(∃ l,m0.blks[id]? = some (.cells l) /\ v ∈ l) \/ lo id v = true) : KM m0 (m0.back m) := {
 len := by rw [back_len hlen]; exact Nat.le_refl _
 touched id h := by simp only [Mem.back]; exact List.mem_append_left _ h
 cells id l' hl hid hnt v hv := by
  simp only [Mem.back] at hl hnt
  by_cases ht : id ∈ m.touched
  ·have hcl : los id l' = true := by
    cases hc : los id l' with
    | true => rfl
    | false =>
     exfalso; apply hnt
     refine List.mem_append_right _ (List.mem_filter.2 ⟨ht,?_⟩)
     rw [hl]; simp [Blk.clean,hc]
   rw [los_eq,List.all_eq_true] at hcl
   exact .inr (hcl v hv)
  ·rw [scrubs_other _ _ _ ht,List.getElem?_take] at hl
   rw [if_pos hid] at hl
   exact hc id l' hl hid ht v hv }
def LpK (lp : LoopV) : Prop := ∀ b : St -> Option (Ex × St),(∀ s e s',b s = some (e,s') -> KM s.mem s'.mem) -> ∀ s e s',lp b s = some (e,s') -> KM s.mem s'.mem
theorem aloop_K (n : Nat) : LpK (aloop n) := by
 intro b hb s e s' h
 induction n generalizing s with
 | zero => simp [aloop] at h
 | succ n ih =>
  simp only [aloop] at h
  split at h
  ·rename_i he; exact (hb _ _ _ he).trans (ih _ h)
  ·exact hb _ _ _ h
theorem pub1_K {d : Nat} {s s' : St} (h : pub1 d s = some s') : KM s.mem s'.mem := by
 unfold pub1 at h
 (repeat' split at h) <;> first | (cases h; done) | (cases h; exact KM.push _ _)
theorem pubs_K : ∀ {l : List Nat} {s s' : St},pubs l s = some s' -> KM s.mem s'.mem
 | [],s,s',h => by cases h; exact KM.refl _
 | d :: l,s,s',h => by
  simp only [pubs] at h
  split at h
  ·rename_i h1; exact (pub1_K h1).trans (pubs_K h)
  ·cases h
theorem exec_K {gl} {c : CallV} {lp : LoopV} (hc : KC c) (hl : LpK lp) (a : AC) : ∀ s e s',exec gl c lp a s = some (e,s') -> KM s.mem s'.mem := by
 induction a with
 | skip => intro s e s' h; cases h; exact KM.refl _
 | ops l =>
  intro s e s' h
  simp only [exec,Option.map_eq_some_iff,Prod.mk.injEq] at h
  obtain ⟨_,h1,_,rfl⟩ := h
  exact aops_K hc h1
 | draw l cf af =>
  intro s e s' h
  simp only [exec,Option.map_eq_some_iff,Prod.mk.injEq] at h
  obtain ⟨_,h1,_,rfl⟩ := h
  exact aops_K hc (adraw_aops h1)
 | seq a b iha ihb =>
  intro s e s' h
  simp only [exec] at h
  split at h
  ·rename_i he; exact (iha _ _ _ he).trans (ihb _ _ _ h)
  ·exact iha _ _ _ h
 | cond x a b iha ihb =>
  intro s e s' h
  simp only [exec] at h
  split at h
  ·split at h
   ·exact iha _ _ _ h
   ·exact ihb _ _ _ h
  ·cases h
 | block id a iha =>
  intro s e s' h
  simp only [exec] at h
  split at h
  ·rename_i he
   split at h <;> (cases h; exact iha _ _ _ he)
  ·exact iha _ _ _ h
 | loop a iha => intro s e s' h; exact hl _ iha _ _ _ h
 | exit id => intro s e s' h; cases h; exact KM.refl _
 | ret => intro s e s' h; cases h; exact KM.refl _
 | rfun f ps asg body _ _ =>
  intro s e s' h
  simp only [exec] at h
  split at h
  ·rename_i r m hcall
   obtain ⟨fv,_,hcall⟩ := Option.bind_eq_some_iff.1 hcall
   have hk := hc _ _ _ _ _ hcall
   have hkb : KM s.mem (s.mem.back m) := by
    have hlen := hk.len
    simp only [List.length_append,List.length_cons,List.length_nil] at hlen
    refine back_K (by omega) (fun id l' hl hid hnt v hv => ?_)
    rcases hk.cells id l' hl (by simp; omega) hnt v hv with ⟨l,h1,h2⟩ | h1
    ·rw [List.getElem?_append_left hid] at h1
     exact .inl ⟨l,h1,h2⟩
    ·exact .inr h1
   split at h <;> first | (cases h; exact hkb) | cases h
  ·cases h
 | pub ds =>
  intro s e s' h
  simp only [exec,Option.map_eq_some_iff,Prod.mk.injEq] at h
  obtain ⟨_,h1,_,rfl⟩ := h
  exact pubs_K h1
 | bad => intro s e s' h; cases h
theorem setLS_K (m : Mem) (l : Nat) (st : LS) : KM m (m.setLS l st) := by
 unfold Mem.setLS
 split
 ·exact KM.set (t := true) (fun _ h => by cases h)
 ·exact KM.refl _
theorem round_K {gl} {c : CallV} {lp : LoopV} (hc : KC c) (hl : LpK lp) {l args mem r m'} (h : round (exec gl c lp) l args mem = some (r,m')) : KM mem m' := by
 unfold round at h
 split at h
 ·split at h
  ·split at h
   ·rename_i he
    have h1 := exec_K hc hl _ _ _ _ he
    split at h
    ·split at h
     ·rename_i he2
      have h2 := exec_K hc hl _ _ _ _ he2
      split at h
      ·cases h; exact h1.trans ((setLS_K _ _ _).trans (h2.trans (setLS_K _ _ _)))
      ·cases h
     ·rename_i he2
      have h2 := exec_K hc hl _ _ _ _ he2
      split at h
      ·cases h; exact h1.trans ((setLS_K _ _ _).trans (h2.trans (setLS_K _ _ _)))
      ·cases h
     ·rename_i he2
      have h2 := exec_K hc hl _ _ _ _ he2
      split at h
      ·cases h; exact h1.trans ((setLS_K _ _ _).trans (h2.trans (setLS_K _ _ _)))
      ·cases h
     ·cases h
    ·cases h
   ·cases h
  ·cases h
 ·cases h
theorem fin_K {g : AF} {k : Bool} {m0 : Mem} {ex : Ex} {s : St} {r m'} (h : fin g k m0 (some (ex,s)) = some (r,m')) (hk : KM { blks := m0.blks,touched := [] } s.mem) : KM m0 m' := by
 have key : ∀ r m',(match gets s g.results with
   | some l => if k then some (exp s.mem.blks.length true (tupled l),({ blks := s.mem.blks,touched := m0.touched ++ s.mem.touched } : Mem))
    else some (frz s.mem.blks m0.blks.length 8 (tupled l),m0.back s.mem)
   | none => none) = some (r,m') -> KM m0 m' := by
  intro r m' h
  split at h
  ·split at h
   ·simp only [Option.some.injEq,Prod.mk.injEq] at h
    rw [<- h.2]
    exact ⟨hk.len,fun id hid => List.mem_append_left _ hid,fun id l' hl hid hnt v hv => hk.cells id l' hl hid (fun hn => hnt (List.mem_append_right _ hn)) v hv⟩
   ·simp only [Option.some.injEq,Prod.mk.injEq] at h
    rw [<- h.2]
    exact back_K hk.len (fun id l' hl hid hnt v hv => hk.cells id l' hl hid hnt v hv)
  ·cases h
 cases ex with
 | exit id => simp [fin] at h
 | normal => exact key r m' h
 | ret => exact key r m' h
theorem cv_K (C : Cfg) (hp : ∀ f p,C.prim f = some p -> ∀ args m r m',p args m = some (r,m') -> KM m m') (n : Nat) : KC (cv C n) := by
 induction n with
 | zero => intro fv args m r m' h; simp [cv] at h
 | succ n ih =>
  intro fv args m r m' h
  simp only [cv,body] at h
  split at h
  ·split at h
   ·rename_i p hpp; exact hp _ _ hpp _ _ _ _ h
   ·split at h
    ·rename_i g hg
     generalize he : exec C.gl (cv C n) (aloop n) g.code _ = x at h
     cases x with
     | none => simp [fin] at h
     | some x =>
      obtain ⟨ex,s⟩ := x
      exact fin_K h (exec_K ih (aloop_K n) _ _ _ _ he)
    ·cases h
  ·exact round_K ih (aloop_K n) h
  ·cases h
end Go.Abs
