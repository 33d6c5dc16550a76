/- A text of this proof. -/
import Derived.Test.YtiigojkfojnedaaGreatDoorPS
set_option linter.unusedVariables false
set_option linter.unusedSimpArgs false
namespace Go.Abs
section
variable (P : Program) (esc : Nat -> Bool) (N : Nat)
def cGuard (ops : Array Oper) : Option (Nat × Bool) -> Option (Option (Nat × Bool))
 | none => some none
 | some (j,want) => match (ops[j]?).bind (·.dst) with
  | some d => if d < N then some (some (d,want)) else none
  | none => none
def dstOK : Option Nat -> Bool
 | none => true
 | some d => decide (d < N)
def cOp1 (ops : Array Oper) (o : Oper) : Option AOp := match cGuard N ops o.guard with
 | some gd => if dstOK N o.dst then some { dst := o.dst,op := cop P esc o,guard := gd } else none
 | none => none
def cOps (ops : Array Oper) : List Oper -> Option (List AOp)
 | [] => some []
 | o :: l => match cOp1 P esc N ops o,cOps ops l with
  | some x,some m => some (x :: m)
  | _,_ => none
end
def GlR (g : Gh) (gl : Nat -> AV) : Prop := ∀ n,VR g noLB (gl n) (.pointer (some ⟨n,0,none⟩))
def markOf (r : Nat) : Deferred := { target := .collected r,args := #[] }
def Marks (ent : Nat) (own : OW) (w : World) (ds : List Deferred) : Prop :=
 ent <= w.heap.size /\ ∃ ms : List Nat,ms.Nodup /\ ds = ms.map markOf /\ ∀ r ∈ ms,ent <= r /\ r < w.heap.size /\ own r = none /\ w.heap[r]? = some (.deferred (some []))
theorem Marks.nil {ent : Nat} {own : OW} {w : World} (h : ent <= w.heap.size) : Marks ent own w [] := ⟨h,[],List.nodup_nil,rfl,fun r hr => by cases hr⟩
theorem Marks.keep {ent : Nat} {g g' : Gh} {own own' : OW} {w w' : World} {ds : List Deferred} (h : Marks ent own w ds) (hs : Steps' g own w g' own' w') : Marks ent own' w' ds := by
 obtain ⟨h0,ms,h1,h2,h3⟩ := h
 refine ⟨Nat.le_trans h0 hs.size,ms,h1,h2,fun r hr => ?_⟩
 obtain ⟨k1,k2,k3,k4⟩ := h3 r hr
 exact ⟨k1,Nat.lt_of_lt_of_le k2 hs.size,hs.unown r k2 k3,(hs.keep r k2 k3).trans k4⟩
structure SR (gl : Nat -> AV) (base N : Nat) (LC : LCR) (ent : Nat) (g : Gh) (lb : LB) (own : OW) (s : St) (a : Act) (w : World) : Prop where
 env : ∀ t,VR g lb (getE s.env t) (a.tmps.getD t undef)
 gl : GlR g gl
 size : N <= a.tmps.size
 defers : Marks ent own w a.defers
 mem : MemR g own LC s.mem w
 loc : LocR g lb own (lget s.loc) w
 own : OwnR base own w
def ownM (own : OW) : OW := fun b => match own b with
 | some (.m id) => some (.m id)
 | _ => none
def Called (F : Fence) (n : Nat) (P : Program) (fx : Value) (vargs : Array Value) (w : World) (R : Value -> World -> Prop) : Prop :=
 (∃ (f : FuncId) (as : Array Value),(do let d <- Deferred.ofValue fx vargs; invoke d.target d.args : Sem Next).run P w = .ok (.enter f as) w /\ CallsIn F n P f as w fun e w' => ∃ x,e = .returned x /\ R x w') ∨
 (∃ x w',(do let d <- Deferred.ofValue fx vargs; invoke d.target d.args : Sem Next).run P w = .ok (.value x) w' /\ R x w') ∨
 (∃ (l : Nat) (f : FuncId) (tmps : Array Value) (assign body : Code),(do let d <- Deferred.ofValue fx vargs; invoke d.target d.args : Sem Next).run P w = .ok (.round l f tmps assign body) w ∧
  RoundIn F n P l f tmps assign body w fun e w' => ∃ x,e = .returned x /\ R x w')
def CallPost (base : Nat) (LC : LCR) (gl : Nat -> AV) (g : Gh) (own : OW) (w : World) (r : AV) (m' : Mem) (x : Value) (w' : World) : Prop :=
 ∃ (g' : Gh) (own' : OW),Steps' g (ownM own) w g' own' w' /\ MemR g' own' LC m' w' /\ VR g' noLB r x /\ OwnR base own' w' /\ (∀ b d,own' b ≠ some (.l d)) /\ GlR g' gl
def CallOK (F : Fence) (P : Program) (base : Nat) (LC : LCR) (gl : Nat -> AV) (callv : CallV) : Prop :=
 ∀ (n : Nat) (g : Gh) (lb : LB) (own : OW) (mem : Mem) (w : World) (fv : AV) (args : List AV) (r : AV) (m' : Mem) (fx : Value) (vargs : Array Value),
  MemR g own LC mem w -> OwnR base own w -> GlR g gl -> VR g lb fv fx -> PW (VR g lb) args vargs.toList -> callv fv args mem = some (r,m') →
  Called F n P fx vargs w (CallPost base LC gl g own w r m')
section
variable {F : Fence} {n : Nat} {P : Program} {esc : Nat -> Bool} {N : Nat} {gl : Nat -> AV} {base : Nat} {LC : LCR} {ent : Nat} {g : Gh} {lb : LB} {own : OW} {s s' : St} {a : Act} {w : World} {callv : CallV}
variable {ops : Array Oper} {Q : Exit -> Act -> World -> Prop}
theorem GlR.mono {g' : Gh} (h : GlR g gl) (hs : g.sub g') : GlR g' gl := fun n => (h n).sub hs
theorem SR.ev (h : SR gl base N LC ent g lb own s a w) : EvOK g lb (evO gl s.env) a := by
 intro x x' hx
 cases x with
 | tmp t => cases hx; exact h.env t
 | const v =>
  simp only [cOpd,Option.map_eq_some_iff] at hx
  obtain ⟨av,hav,rfl⟩ := hx
  exact absC_spec hav
 | global i =>
  cases hx
  exact (h.gl i).mono g.sub_refl fun _ _ _ h => by cases h
 | func f =>
  cases hx
  exact .fn _ _ _ _ _ _ _ rfl rfl rfl (fun i hi => by simp at hi) (fun i hi => by simp at hi)
theorem getD_put (a : Act) (dst : Option Nat) (v : Value) (hd : ∀ d,dst = some d -> d < a.tmps.size) (t : Nat) :
  (a.put dst v).tmps.getD t undef = if dst = some t then v else a.tmps.getD t undef := by
 cases dst with
 | none => simp [Act.put]
 | some d =>
  have := hd d rfl
  simp only [Act.put,Array.getD_eq_getD_getElem?,Array.getElem?_setIfInBounds,Option.some.injEq]
  by_cases h : d = t
  ·subst h; simp [this]
  ·simp [h]
theorem getE_setO (env : List AV) (dst : Option Nat) (v : AV) (t : Nat) : getE (setO env dst v) t = if dst = some t then v else getE env t := by
 cases dst with
 | none => simp [setO]
 | some d => simp [setO,getE_setE]
theorem put_size (a : Act) (dst : Option Nat) (v : Value) : (a.put dst v).tmps.size = a.tmps.size := by cases dst <;> simp [Act.put]
theorem put_defers' (a : Act) (dst : Option Nat) (v : Value) : (a.put dst v).defers = a.defers := by cases dst <;> rfl
theorem SR.after (h : SR gl base N LC ent g lb own s a w) {dst : Option Nat} (hd : dstOK N dst = true) {v : AV} {u : Upd} {m' : Mem} {x : Value} {w' : World} (hp : Post base LC g lb own (lget s.loc) w v u m' x w') :
  ∃ g' lb' own',Steps' g own w g' own' w' /\ SR gl base N LC ent g' lb' own' { env := setO s.env dst v,loc := setU s.loc u,mem := m' } (a.put dst x) w' := by
 obtain ⟨g',lb',own',h1,h2,h3,h4,h5,h6⟩ := hp
 have hd' : ∀ d,dst = some d -> d < a.tmps.size := by
  rintro d rfl
  simp only [dstOK,decide_eq_true_eq] at hd
  exact Nat.lt_of_lt_of_le hd h.size
 refine ⟨g',lb',own',h1,fun t => ?_,h.gl.mono h1.sub,by rw [put_size]; exact h.size,by rw [put_defers']; exact h.defers.keep h1,h4,by rw [lget_setU]; exact h5,h6⟩
 rw [getD_put a dst x hd',getE_setO]
 split
 ·exact h3
 ·exact (h.env t).mono h1.sub h2
theorem wanted_ok (h : SR gl base N LC ent g lb own s a w) {o : Oper} {gd : Option (Nat × Bool)} (hg : cGuard N ops o.guard = some gd) {b : Bool} (hw : wantedA s.env gd = some b) :
  Region.wanted o (yielded ops a.tmps) = b := by
 unfold Region.wanted
 cases hgd : o.guard with
 | none =>
  rw [hgd] at hg; cases hg
  cases hw; rfl
 | some jw =>
  obtain ⟨j,want⟩ := jw
  rw [hgd] at hg
  simp only [cGuard] at hg
  split at hg
  ·rename_i d hd
   split at hg
   ·rename_i hdn
    cases hg
    simp only [wantedA] at hw
    have hlt : d < a.tmps.size := Nat.lt_of_lt_of_le hdn h.size
    have hv := h.env d
    have hget : a.tmps[d]? = some (a.tmps.getD d undef) := by simp [Array.getD_eq_getD_getElem?,hlt]
    simp only [yielded,hd,Option.bind_some,hget]
    generalize a.tmps.getD d undef = x at hv
    split at hw
    ·rename_i b' he
     rw [he] at hv; cases hv
     cases hw; rfl
    ·rename_i he
     rw [he] at hv; cases hv
     cases hw; rfl
    ·cases hw
   ·cases hg
  ·cases hg
theorem ownM_some {b : Nat} {o : Own} (h : ownM own b = some o) : own b = some o /\ ∃ id,o = .m id := by
 unfold ownM at h
 split at h
 ·rename_i id he; cases h; exact ⟨he,id,rfl⟩
 ·cases h
theorem call_post (hs : SR gl base N LC ent g lb own s a w) {r : AV} {m' : Mem} {x : Value} {w' : World} (h : CallPost base LC gl g own w r m' x w') : Post base LC g lb own (lget s.loc) w r none m' x w' := by
 obtain ⟨g',own',h1,h2,h3,h4,h5,h6⟩ := h
 let own3 : OW := fun b => match own b with
  | some (.l d) => some (.l d)
  | _ => own' b
 have hl : ∀ b d,own b = some (.l d) -> b < w.heap.size /\ ownM own b = none := fun b d hb => ⟨(hs.own.ge b _ hb).2,by simp [ownM,hb]⟩
 have hown3 : ∀ b id,own' b = some (.m id) -> own3 b = own' b := by
  intro b id hb
  simp only [own3]
  split
  ·rename_i d hd
   obtain ⟨k1,k2⟩ := hl b d hd
   rw [h1.unown b k1 k2] at hb; cases hb
  ·rfl
 have hnone : ∀ b,own b = none -> ownM own b = none := fun b hb => by simp [ownM,hb]
 refine ⟨g',lb,own3,⟨h1.sub,h1.size,h1.os,h1.tape,h1.output,fun b hb ho => h1.keep b hb (hnone b ho),fun b hb ho => ?_,fun b hb ho => h1.im b hb (hnone b ho)⟩,fun _ _ _ h => h,
  h3.mono g'.sub_refl (fun _ _ _ h => by cases h),?_,?_,⟨fun b o hb => ?_,h4.base⟩⟩
 ·simp only [own3,ho]; exact h1.unown b hb (hnone b ho)
 ·exact h2.keep g'.sub_refl (fun _ h => h) (fun _ _ h => h) (fun id b hb => ⟨hown3 b id hb,rfl,fun _ => rfl⟩) h2.im
 ·exact hs.loc.keep h1.sub fun d b hb => by
   obtain ⟨k1,k2⟩ := hl b d hb
   exact ⟨by simp [own3,hb],h1.keep b k1 k2,h1.im b k1 k2⟩
 ·simp only [own3] at hb
  split at hb
  ·rename_i d hd
   have := hs.own.ge b _ hd
   exact ⟨this.1,Nat.lt_of_lt_of_le this.2 h1.size⟩
  ·exact h4.ge b o hb
theorem cop_not_defer {o : Oper} (h : copO P esc o ≠ none) : ∀ c,o.op ≠ .defer c := by
 intro c hc
 apply h
 simp only [copO,hc]
theorem copO_call {o : Oper} {f' : Opd} {args' : List Opd} (hco : copO P esc o = some (.call f' args')) :
  ∃ c f,o.op = .call c /\ c.callee = .value f /\ cOpd f = some f' /\ cOpds c.args.toList = some args' := by
 have hm : ∀ {α : Type} {x : Option α} {h : α -> AO},x.map h = some (.call f' args') -> (∀ y,h y ≠ .call f' args') -> False := fun hx hn => by
  simp only [Option.map_eq_some_iff] at hx
  obtain ⟨y,_,hy⟩ := hx
  exact hn y hy
 cases hop : o.op with
 | call c =>
  simp only [copO,hop] at hco
  cases hcb : c.callee with
  | value f =>
   rw [hcb] at hco
   dsimp only at hco
   split at hco
   ·rename_i h1 h2; cases hco; exact ⟨c,f,rfl,hcb,h1,h2⟩
   ·cases hco
  | invoke r n => rw [hcb] at hco; cases hco
  | builtin b =>
   exfalso
   rw [hcb] at hco
   cases b <;> dsimp only at hco <;> (try (cases hco; done)) <;> (repeat' split at hco) <;> first | (cases hco; done) | exact hm hco (fun _ h => by cases h)
 | makeFunc fn x y =>
  exfalso
  cases fn <;> simp only [copO,hop] at hco <;> (repeat' split at hco) <;> cases hco
 | makeMap t r =>
  exfalso
  cases r with
  | none => simp only [copO,hop] at hco; cases hco
  | some r =>
   cases r with
   | const c =>
    cases c with
    | int k n =>
     simp only [copO,hop] at hco
     (repeat' split at hco) <;> cases hco
    | _ => simp only [copO,hop] at hco; cases hco
   | _ => simp only [copO,hop] at hco; cases hco
 | next x b => exfalso; cases b <;> simp only [copO,hop] at hco <;> first | (cases hco; done) | exact hm hco (fun _ h => by cases h)
 | binOp op t x y ty =>
  exfalso
  have hn : ∀ k x' y',cNil k op x' y' ≠ some (.call f' args') := fun k x' y' h => by
   unfold cNil at h
   (repeat' split at h) <;> cases h
  simp only [copO,hop] at hco
  (repeat' split at hco) <;> first | (cases hco; done) | exact hn _ _ _ hco
 | _ =>
  exfalso
  simp only [copO,hop] at hco
  (repeat' split at hco) <;> first | (cases hco; done) | exact hm hco (fun _ h => by cases h)
theorem step_sound (hF : ∀ f,F.fn f) (hd : F.depth = none) (hcall : CallOK F P base LC gl callv) {i : Nat} {o : Oper} {o' : AOp} (hi : ops[i]? = some o) (hc : cOp1 P esc N ops o = some o')
  (hs : SR gl base N LC ent g lb own s a w) (hst : astep gl callv o' s = some s') {K : Act -> World -> Prop}
  (hK : ∀ g' lb' own' a' w',Steps' g own w g' own' w' -> SR gl base N LC ent g' lb' own' s' a' w' -> K a' w') : wpOpIn F n P ops Q i K a w := by
 unfold cOp1 at hc
 split at hc
 ·rename_i gd hgd
  split at hc
  ·rename_i hdst
   cases hc
   unfold astep at hst
   unfold wpOpIn
   simp only [hi]
   split at hst
   ·cases hst
   ·rename_i hw
    have hwt := wanted_ok hs hgd hw
    simp only [hwt,if_true]
    refine ⟨fun f _ => hF f,?_⟩
    split at hst
    ·rename_i v u m' he
     cases hst
     dsimp only at he
     unfold cop at he
     cases hco : copO P esc o with
     | none => rw [hco] at he; simp [aop] at he
     | some ao =>
      rw [hco] at he
      simp only [Option.getD_some] at he
      have hsem : Oper.semAt F.round a.eval o = execOp a.eval o := Oper.semAt_eq _ _ _ (cop_not_defer (by rw [hco]; simp))
      rw [hsem]
      by_cases hcl : ∃ f args,ao = .call f args
      ·obtain ⟨f',args',rfl⟩ := hcl
       simp only [aop,Option.map_eq_some_iff,Prod.mk.injEq,Prod.exists] at he
       obtain ⟨r,m1,he,rfl,rfl,rfl⟩ := he
       have key := copO_call hco
       obtain ⟨c,f,hop,hcb,hf,hargs⟩ := key
       have hpw := evs_spec hs.ev hargs
       have hcd := hcall (n - 1) g lb own s.mem w _ _ _ _ (a.eval f) (c.args.map a.eval) hs.mem hs.own hs.gl (hs.ev _ _ hf) (by simpa using hpw) he
       have hexec : execOp a.eval o = (do let d <- Deferred.ofValue (a.eval f) (c.args.map a.eval); invoke d.target d.args : Sem Next) := by
        simp only [execOp,hop,resolve,hcb]
       rw [hexec]
       rcases hcd with ⟨fid,as,h1,h2⟩ | ⟨x,w',h1,h2⟩ | ⟨l,fid,tmps,asg,bod,h1,h2⟩
       ·rw [h1,Oper.uponIn_enter]
        refine ⟨fun h => (by rw [hd] at h; cases h),h2.mono fun e w' he => ?_⟩
        obtain ⟨x,rfl,hR⟩ := he
        obtain ⟨g',lb',own',k1,k2⟩ := hs.after hdst (call_post hs hR)
        exact hK _ _ _ _ _ k1 k2
       ·rw [h1,Oper.uponIn_value]
        obtain ⟨g',lb',own',k1,k2⟩ := hs.after hdst (call_post hs h2)
        exact hK _ _ _ _ _ k1 k2
       ·rw [h1,Oper.uponIn_round]
        refine ⟨fun h => (by rw [hd] at h; cases h),h2.mono fun e w' he => ?_⟩
        obtain ⟨x,rfl,hR⟩ := he
        obtain ⟨g',lb',own',k1,k2⟩ := hs.after hdst (call_post hs hR)
        exact hK _ _ _ _ _ k1 k2
      ·obtain ⟨x,w',h1,h2⟩ := op_sound hs.ev hs.mem hs.loc hs.own hco (fun f args h => hcl ⟨f,args,h⟩) he
       obtain ⟨g',lb',own',k1,k2⟩ := hs.after hdst h2
       rcases h1 with h1 | ⟨h1,rfl⟩
       ·rw [h1,Oper.uponIn_value]; exact hK _ _ _ _ _ k1 k2
       ·rw [h1,Oper.uponIn_skip]; exact hK _ _ _ _ _ k1 k2
    ·cases hst
   ·rename_i hw
    have hwt := wanted_ok hs hgd hw
    cases hst
    simp only [hwt,Bool.false_eq_true,if_false]
    refine ⟨fun f _ => hF f,?_⟩
    obtain ⟨g',lb',own',k1,k2⟩ := hs.after hdst (Post.pure (x := undef) hs.mem hs.loc hs.own (.undef lb))
    exact hK _ _ _ _ _ k1 k2
  ·cases hc
 ·cases hc
end
end Go.Abs
