/- A text of this proof. -/
import Derived.Test.YtiigojkfojnedaaGreatDoorPX
import Derived.RangeFuncIn
set_option linter.unusedVariables false
set_option linter.unusedSimpArgs false
namespace Go.Abs
def EnterOK (P : Program) (callv : CallV) : Prop :=
 ∀ f first cap l mem r,callv (.fn (.func f) first cap) [.fn (.yield l) [] []] mem = some r -> ∃ fn,P.funcs[f]? = some fn /\ fn.body.isNone = false /\ (fn.name == "runtime.NumGoroutine") = false
theorem ownNew_none {base : Nat} {own : OW} {w : World} (ho : OwnR base own w) : ownNew own w.heap.size none = own := by
 funext b
 simp only [ownNew]
 split
 ·rename_i h; subst h
  cases hx : own w.heap.size with
  | none => rfl
  | some o => exact absurd rfl (own_lt ho hx)
 ·rfl
theorem getE_map_nol (l : List AV) (t : Nat) : getE (l.map nol) t = nol (getE l t) := by
 induction l generalizing t with
 | nil => rfl
 | cons a l ih => cases t with
  | zero => rfl
  | succ t => exact ih t
theorem run_callFunc {P : Program} {f : FuncId} {fn : Func} {args : Array Value} {w : World} (h : P.funcs[f]? = some fn) (hb : fn.body.isNone = false) (hn : (fn.name == "runtime.NumGoroutine") = false) :
  (callFunc f args).run P w = .ok (.enter f args) w := by
 have h1 : (program : Sem Program).run P w = .ok P w := rfl
 simp only [callFunc,Sem.run_bind,h1,Result.andThen_ok,h,hn,hb,Bool.false_eq_true,if_false]
 rfl
section
variable {F : Fence} {n : Nat} {P : Program} {esc : Nat -> Bool} {N : Nat} {gl : Nat -> AV} {base : Nat} {LC : LCR} {ent : Nat} {callv : CallV}
theorem isFunc_some {v fv : AV} (h : v.isFunc = some fv) : ∃ f a b,v = .fn (.func f) a b /\ fv = v := by
 unfold AV.isFunc at h
 split at h
 ·cases h; exact ⟨_,_,_,rfl,rfl⟩
 ·cases h
theorem rfun_sound (hF : ∀ f,F.fn f) (hd : F.depth = none) (hro : F.round = none) (hcall : CallOK F P base LC gl callv) (hbody : EnterOK P callv) (hK : KC callv)
  {g : Gh} {lb : LB} {own : OW} {s s' : St} {ex : Ex} {a : Act} {w : World} (hs : SR gl base N LC ent g lb own s a w) {f : Operand} {f' : Opd} (hf : cOpd f = some f')
  {ps : Array Tmp} {asg body : Code} {asg' body' : AC} (ha : LC N asg' asg) (hb : LC N body' body) (hps : ∀ p ∈ ps.toList,p < N) {lp : LoopV}
  (hx : exec gl callv lp (.rfun f' ps.toList asg' body') s = some (ex,s')) {Q : Exit -> Act -> World -> Prop}
  (hQ : ∀ g' lb' own' a' w',Steps' g own w g' own' w' -> SR gl base N LC ent g' lb' own' s' a' w' -> Q ex.exit' a' w') : (Code.rangeFunc f ps asg body).wpIn F n P Q a w := by
 simp only [exec] at hx
 split at hx
 ·rename_i r m hc
  obtain ⟨fv,hfv,hc⟩ := Option.bind_eq_some_iff.1 hc
  obtain ⟨fid,A,B,hev,rfl⟩ := isFunc_some hfv
  have hvf := hs.ev _ _ hf
  rw [hev] at hvf hc
  obtain ⟨As,Bs,hae⟩ : ∃ As Bs,a.eval f = .func (.func fid) As Bs := by
   generalize a.eval f = y at hvf
   cases hvf with
   | fn _ _ f2 _ _ As Bs _ _ hy =>
    cases f2 <;> first | exact hy.elim | skip
    cases hy; exact ⟨As,Bs,rfl⟩
  obtain ⟨fn0,hf1,hf2,hf3⟩ := hbody _ _ _ _ _ _ hc
  refine wpIn_rangeFunc fun fn hfn => ?_
  have hlen : ∀ id b,g.mb id = some b -> id < s.mem.blks.length := hs.mem.dom
  have hsA : SR gl base N LC ent g lb own s { a with defers := markOf w.heap.size :: a.defers } (w.alloc (.deferred (some []))) := by
   have hm := hs.mem.alloc hs.own (.deferred (some [])) none
   have hl := hs.loc.alloc hs.own (.deferred (some [])) none
   have ho := hs.own.alloc (.deferred (some [])) none
   rw [ownNew_none hs.own] at hm hl ho
   refine ⟨hs.env,hs.gl,hs.size,?_,hm,hl,ho⟩
   obtain ⟨h0,ms,h1,h2,h3⟩ := hs.defers
   refine ⟨by simp; omega,w.heap.size :: ms,List.nodup_cons.2 ⟨fun hm => by have := (h3 _ hm).2.1; omega,h1⟩,by simp [h2],fun r hr => ?_⟩
   rcases List.mem_cons.1 hr with rfl | hr
   ·refine ⟨h0,by simp,?_,heap_alloc_at w _⟩
    cases hx : own w.heap.size with
    | none => rfl
    | some o => exact absurd rfl (own_lt hs.own hx)
   ·obtain ⟨k1,k2,k3,k4⟩ := h3 r hr
    exact ⟨k1,by simp; omega,k3,(heap_alloc_lt w _ k2).trans k4⟩
  have hstA : Steps' g own w g own (w.alloc (.deferred (some []))) := by
   have := Steps'.alloc g own w (.deferred (some [])) none
   rwa [ownNew_none hs.own] at this
  obtain ⟨wA,hwA⟩ : ∃ wA,wA = w.alloc (.deferred (some [])) := ⟨_,rfl⟩
  rw [<- hwA] at hsA hstA
  obtain ⟨L,hL⟩ : ∃ L : Loop,L = { state := .ready,pending := none,fn,tmps := a.tmps,params := ps,assign := asg,body,defers := w.heap.size } := ⟨_,rfl⟩
  let gB : Gh := { g with mb := fun id => if id = s.mem.blks.length then some wA.heap.size else g.mb id }
  let ownB : OW := ownNew own wA.heap.size (some (.m s.mem.blks.length))
  let wB : World := wA.alloc (.loop L)
  have hsubB : g.sub gB := ⟨fun _ _ _ h => h,fun id b hb => by
   have := hlen id b hb
   simp only [gB]; rw [if_neg (by omega)]; exact hb,fun _ _ _ h => h⟩
  have hmB : MemR gB ownB LC { blks := s.mem.blks ++ [.loop (s.env.map s.mem.nol) ps.toList asg' body' .ready],touched := [] } wB := by
   have hm := hsA.mem
   have := hm.push (hm.alloc hsA.own (.loop L) (some (.m s.mem.blks.length))) (.loop (s.env.map s.mem.nol) ps.toList asg' body' .ready) gB.mb (fun id b hb => ?_) (fun id hid => ?_) ?_
   ·exact ⟨this.dom,this.rdom,this.blk,this.im⟩
   ·simp only [gB] at hb
    split at hb
    ·exact .inr (by assumption)
    ·exact .inl hb
   ·exact if_neg (by omega)
   ·refine ⟨wA.heap.size,by simp [gB],by simp [ownNew],(show ∀ o,g.im wA.heap.size o = none from im_new hm),L,N,heap_alloc_at wA _,fun t => ?_,by rw [hL],by rw [hL]; exact hsA.size,hps,by rw [hL]; exact ha,by rw [hL]; exact hb,?_,fun t => ?_⟩
    ·have := (hs.env t).nol (lb' := noLB)
     rw [show (s.env.map s.mem.nol) = s.env.map nol from rfl,getE_map_nol,hL]
     exact this.sub hsubB
    ·rw [hL]; exact ⟨rfl,rfl⟩
    ·refine ⟨g,a.tmps.getD t undef,hm.dom,hm.rdom,?_⟩
     rw [show (s.env.map s.mem.nol) = s.env.map nol from rfl,getE_map_nol]
     exact (hs.env t).nol
  have hoB : OwnR base ownB wB := hsA.own.alloc _ _
  have hyB : VR gB lb (.fn (.yield s.mem.blks.length) [] []) (.func (.yield wA.heap.size) #[] #[]) :=
   .fn _ _ _ _ _ _ _ rfl rfl (by simp [FnR,gB]) (fun i hi => by simp at hi) (fun i hi => by simp at hi)
  have hcd := hcall (n - 1) gB lb ownB _ wB _ _ _ _ (a.eval f) #[.func (.yield wA.heap.size) #[] #[]] hmB hoB (hs.gl.mono hsubB) (by rw [hae] at hvf ⊢; exact hvf.sub hsubB)
   (PW.cons hyB PW.nil) hc
  have hof : (Deferred.ofValue (a.eval f) #[.func (.yield wA.heap.size) #[] #[]]).run P wB = .ok { target := .fn (.func fid) Bs,args := As ++ #[.func (.yield wA.heap.size) #[] #[]] } wB := by
   rw [hae]; rfl
  have hinv : (invoke (.fn (.func fid) Bs) (As ++ #[.func (.yield wA.heap.size) #[] #[]])).run P wB = .ok (.enter fid (As ++ #[.func (.yield wA.heap.size) #[] #[]] ++ Bs)) wB := by
   simp only [invoke]; exact run_callFunc hf1 hf2 hf3
  have hrun : (do let d <- Deferred.ofValue (a.eval f) #[.func (.yield wA.heap.size) #[] #[]]; invoke d.target d.args : Sem Next).run P wB = .ok (.enter fid (As ++ #[.func (.yield wA.heap.size) #[] #[]] ++ Bs)) wB := by
   simp only [Sem.run_bind,hof,Result.andThen_ok,hinv]
  have hres : (resolve a.eval (rangeCall f wA.heap.size) 0).run P wB = .ok { target := .fn (.func fid) Bs,args := As ++ #[.func (.yield wA.heap.size) #[] #[]] } wB := by
   have : (#[Operand.const (.func (.yield wA.heap.size) #[] #[])].map a.eval) = #[.func (.yield wA.heap.size) #[] #[]] := by simp [Act.eval]
   simp only [resolve,this]; exact hof
  unfold Called at hcd
  rw [hrun] at hcd
  have hci : CallsIn F (n - 1) P fid (As ++ #[.func (.yield wA.heap.size) #[] #[]] ++ Bs) wB fun e w' => ∃ x,e = .returned x /\ CallPost base LC gl gB ownB wB r m x w' := by
   rcases hcd with ⟨f2,as2,h1,h2⟩ | ⟨_,_,h1,_⟩ | ⟨_,_,_,_,_,h1,_⟩
   ·cases h1; exact h2
   ·cases h1
   ·cases h1
  refine ⟨wA.heap.size,[markOf w.heap.size],wB,{ target := .fn (.func fid) Bs,args := As ++ #[.func (.yield wA.heap.size) #[] #[]] },wB,fid,_,wB,?_,hres,fun f' _ => hF f',hinv,fun h => (by rw [hd] at h; cases h),hci.mono fun e w3 he => ?_⟩
  ·rw [hro]
   show _ = Result.ok (wA.heap.size,[markOf w.heap.size]) (wA.alloc (.loop L))
   rw [hwA,hL]
   simp only [Instr.enterLoop,Sem.run_bind,run_newObj,Result.andThen_ok,Sem.run_pure]
   rfl
  ·obtain ⟨x,rfl,g3,own3,hst3,hm3,hv3,ho3,hnl3,hgl3⟩ := he
   have hk := hK _ _ _ _ _ hc
   have hloop : ∃ e p q r st,m.blks[s.mem.blks.length]? = some (.loop e p q r st) /\ st ≠ .busy /\ s' = { s with mem := s.mem.back m } ∧
     ex = (match st with | .ready => .normal | .busy => .normal | .done none => .ret | .done (some i) => .exit i) := by
    split at hx
    ·rename_i he; cases hx; exact ⟨_,_,_,_,_,he,by simp,rfl,rfl⟩
    ·rename_i he; cases hx; exact ⟨_,_,_,_,_,he,by simp,rfl,rfl⟩
    ·rename_i he; cases hx; exact ⟨_,_,_,_,_,he,by simp,rfl,rfl⟩
    ·cases hx
   obtain ⟨e,p,q,r',st,hblk,hnb,rfl,hex⟩ := hloop
   obtain ⟨b,b1,b2,b3,L3,N3,b4,b5,b6,b7,b8,b9,b10,b11,b12⟩ := hm3.blk _ _ hblk
   have hbe : b = wA.heap.size := by
    have := hst3.sub.2.1 s.mem.blks.length wA.heap.size (by simp [gB])
    rw [this] at b1; exact (Option.some.inj b1).symm
   subst hbe
   have hstate : (L3.state == LoopState.busy) = false := by
    cases st with
    | ready => rw [b11.1]; rfl
    | busy => exact absurd rfl hnb
    | done j => cases j <;> (rw [b11.1]; rfl)
   let w4 : World := setObjW w3 wA.heap.size (.loop { L3 with state := .exhausted })
   have hend : (Instr.endLoop wA.heap.size).run P w3 = .ok L3.pending w4 := by
    have h1 : (getObj wA.heap.size).run P w3 = .ok (.loop L3) w3 := by simp only [getObj,Sem.run,b4]
    have h2 : ∀ y,(setObj wA.heap.size y).run P w3 = .ok () (setObjW w3 wA.heap.size y) := fun y => by simp only [setObj,Sem.run,b4]; rfl
    simp only [Instr.endLoop,Instr.getLoop,Sem.run_bind,h1,Result.andThen_ok,Sem.run_pure,hstate,Bool.false_eq_true,if_false,h2]
    rfl
   have hother : ∀ b',b' ≠ wA.heap.size -> w4.heap[b']? = w3.heap[b']? := fun b' hne => by
    simp only [w4,setObjW]; rw [Array.getElem?_setIfInBounds_ne (Ne.symm hne)]
   have hlen4 : (s.mem.back m).blks.length = s.mem.blks.length := back_len (by have := hk.len; simp at this; omega)
   have hback := back_spec hs.mem hm3 hk
   have hsub4 : g.sub (g3.cut s.mem.blks.length) := by
    refine ⟨fun b o y hy => hst3.sub.1 b o y hy,fun id b hb => ?_,fun t k y hy => ?_⟩
    ·simp only [Gh.cut]; rw [if_pos (hlen id b hb)]; exact hst3.sub.2.1 _ _ (hsubB.2.1 _ _ hb)
    ·simp only [Gh.cut]; rw [if_pos (hs.mem.rdom t k y hy)]; exact hst3.sub.2.2 _ _ _ hy
   have hm4 : MemR (g3.cut s.mem.blks.length) (ownCut s.mem.blks.length own3) LC (s.mem.back m) w4 := by
    refine hback.keep (Gh.sub_refl _) (fun _ h => h) (fun _ _ h => h) (fun id b hb => ⟨rfl,hother b ?_,fun _ => rfl⟩) (fun b o y hy => ?_)
    ·rintro rfl
     have h1 := (ownCut_some hb).1
     rw [b2] at h1; cases h1
     simp [ownCut,b2] at hb
    ·have hne : b ≠ wA.heap.size := by rintro rfl; exact absurd ((b3 o).symm.trans hy) (by simp)
     rw [cell?_of_heap (hother b hne)]; exact hm3.im _ _ _ hy
   have hpost : CallPost base LC gl g own wA .undef (s.mem.back m) undef w4 := by
    refine ⟨g3.cut s.mem.blks.length,ownCut s.mem.blks.length own3,⟨hsub4,?_,?_,?_,?_,fun b hb ho => ?_,fun b hb ho => ?_,fun b hb ho o => ?_⟩,hm4,.undef _,⟨fun b o hb => ?_,?_⟩,fun b d hb => ?_,hs.gl.mono hsub4⟩
    ·have h1 := hst3.size
     have h2 : wA.heap.size <= wB.heap.size := by simp [wB]
     simp only [w4,setObjW,Array.size_setIfInBounds]; omega
    ·exact hst3.os.trans rfl
    ·exact hst3.tape.trans rfl
    ·exact hst3.output.trans rfl
    ·have hne : b ≠ wA.heap.size := by omega
     have hoB' : ownM ownB b = none := by simp only [ownM,ownB,ownNew,if_neg hne]; exact ho
     have hlB : b < wB.heap.size := by simp [wB]; omega
     rw [hother b hne,hst3.keep b hlB hoB']
     exact heap_alloc_lt wA _ hb
    ·have hne : b ≠ wA.heap.size := by omega
     have hoB' : ownM ownB b = none := by simp only [ownM,ownB,ownNew,if_neg hne]; exact ho
     have hlB : b < wB.heap.size := by simp [wB]; omega
     exact ownCut_none (hst3.unown b hlB hoB')
    ·have hne : b ≠ wA.heap.size := by omega
     have hoB' : ownM ownB b = none := by simp only [ownM,ownB,ownNew,if_neg hne]; exact ho
     have hlB : b < wB.heap.size := by simp [wB]; omega
     exact hst3.im b hlB hoB' o
    ·have := ho3.ge b o (ownCut_some hb).1
     simpa [w4,setObjW] using this
    ·simpa [w4,setObjW] using ho3.base
    ·obtain ⟨_,id,h⟩ := ownCut_some hb; cases h
   obtain ⟨g',lb',own',k1,k2⟩ := hsA.after (dst := none) rfl (call_post hsA hpost)
   have hfin := hQ g' lb' own' _ w4 (hstA.trans k1) k2
   refine ⟨L3.pending,w4,hend,?_⟩
   cases st with
   | ready =>
    obtain ⟨_,hp⟩ := b11
    rw [Option.isNone_iff_eq_none.1 hp]
    rw [hex] at hfin; exact hfin
   | busy => exact absurd rfl hnb
   | done j =>
    cases j with
    | none =>
     obtain ⟨_,hp⟩ := b11
     cases hpe : L3.pending with
     | none => rw [hpe] at hp; exact hp.elim
     | some c =>
      rw [hpe] at hp
      cases c <;> first | exact hp.elim | skip
      rw [hex] at hfin
      exact wpIn_ret hfin
    | some i =>
     obtain ⟨_,hp⟩ := b11
     cases hpe : L3.pending with
     | none => rw [hpe] at hp; exact hp.elim
     | some c =>
      rw [hpe] at hp
      cases c <;> first | exact hp.elim | skip
      dsimp only at hp
      subst hp
      rw [hex] at hfin
      exact wpIn_exit hfin
 ·cases hx
end
end Go.Abs
