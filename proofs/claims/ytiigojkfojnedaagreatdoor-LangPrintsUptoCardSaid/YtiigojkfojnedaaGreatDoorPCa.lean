/- A text of this proof. -/
import Derived.Test.YtiigojkfojnedaaGreatDoorPZ
import Derived.RangeFuncLeaves
set_option linter.unusedVariables false
set_option linter.unusedSimpArgs false
namespace Go.Abs
section
variable {F : Fence} {n : Nat} {P : Program} {esc : Nat -> Bool} {N : Nat} {gl : Nat -> AV} {base : Nat} {LC : LCR} {ent : Nat} {callv : CallV}
theorem stepR_scope' {P : Program} {b : Frame} {a : Act} {k : List Item} {cs : List Frame} {w : World} {c : Code} :
  step P (lone (b.atR a (.code (.scope c) :: k)) cs w) = .next (lone (b.atR a (.code c :: .inScope c :: k)) cs w) :=
 step_lone_go (by simp [stepG,stepG.exec,Frame.atR])
theorem stepR_inScope' {P : Program} {b : Frame} {a : Act} {k : List Item} {cs : List Frame} {w : World} {c : Code} :
  step P (lone (b.atR a (.inScope c :: k)) cs w) = .next (lone (b.atR a k) cs w) :=
 step_lone_go (by simp [stepG,stepG.exec,Frame.atR])
def noGoto (Q : Exit -> Act -> World -> Prop) : Exit -> Act -> World -> Prop
 | .goto _,_,_ => False
 | e,a,w => Q e a w
theorem wpIn_scope' {F : Fence} {n : Nat} {P : Program} {Q : Exit -> Act -> World -> Prop} {a : Act} {w : World} {c : Code} (h : c.wpIn F n P (noGoto Q) a w) : (Code.scope c).wpIn F n P Q a w := by
 intro b k cs hro hb hr
 have h0 : (lone (b.atR a (.code (.scope c) :: k)) cs w).fenced P F := fenced_calm hb hr rfl
 obtain ⟨e,a₁,w₁,hq,harr⟩ := h b (.inScope c :: k) cs hro hb hr
 cases e with
 | normal => exact ⟨.normal,a₁,w₁,hq,.head h0 stepR_scope' (StepsIn.trans harr (.one (fenced_calm hb hr rfl) stepR_inScope'))⟩
 | exit id =>
  have hx : exitTo id (.inScope c :: k) = exitTo id k := by simp [exitTo]
  exact ⟨.exit id,a₁,w₁,hq,fun k' hk => .head h0 stepR_scope' (harr.1 k' (by rw [hx]; exact hk)),
   fun hr' hk => let ⟨k₁,h1,h2⟩ := harr.2 hr' (by rw [hx]; exact hk); ⟨k₁,h1,.head h0 stepR_scope' h2⟩⟩
 | goto l => exact hq.elim
 | ret => exact ⟨_,a₁,w₁,hq,.of_steps (.one h0 stepR_scope') harr⟩
 | panic ch => exact ⟨_,a₁,w₁,hq,.of_steps (.one h0 stepR_scope') harr⟩
 | outgrown => exact ⟨_,a₁,w₁,hq,.of_steps (.one h0 stepR_scope') harr⟩
theorem code_sound (hF : ∀ f,F.fn f) (hd : F.depth = none) (hcall : CallOK F P base LC gl callv) (hbody : EnterOK P callv) (hK : KC callv)
  (hLC : ∀ c,LC N (cCode P esc N false c) c) (m : Nat) (c : Code) : ∀ (rf : Bool),(rf = true -> F.round = none) -> ∀ (g : Gh) (lb : LB) (own : OW) (s : St) (ex : Ex) (s' : St) (a : Act) (w : World) (Q : Exit -> Act -> World -> Prop),
  SR gl base N LC ent g lb own s a w -> exec gl callv (aloop m) (cCode P esc N rf c) s = some (ex,s') →
  (∀ g' lb' own' a' w',Steps' g own w g' own' w' -> SR gl base N LC ent g' lb' own' s' a' w' -> Q ex.exit' a' w') -> c.wpIn F n P Q a w := by
 induction c with
 | skip =>
  intro rf hrf g lb own s ex s' a w Q hs hx hQ
  cases hx
  exact wpIn_skip (hQ _ _ _ _ _ (.refl _ _ _) hs)
 | label l =>
  intro rf hrf g lb own s ex s' a w Q hs hx hQ
  cases hx
  exact wpIn_label (hQ _ _ _ _ _ (.refl _ _ _) hs)
 | exit id =>
  intro rf hrf g lb own s ex s' a w Q hs hx hQ
  cases hx
  exact wpIn_exit (hQ _ _ _ _ _ (.refl _ _ _) hs)
 | ret =>
  intro rf hrf g lb own s ex s' a w Q hs hx hQ
  cases hx
  exact wpIn_ret (hQ _ _ _ _ _ (.refl _ _ _) hs)
 | region id ops draw =>
  intro rf hrf g lb own s ex s' a w Q hs hx hQ
  exact region_sound hF hd hcall hs hx hQ
 | seq x y ihx ihy =>
  intro rf hrf g lb own s ex s' a w Q hs hx hQ
  simp only [cCode,exec] at hx
  refine wpIn_seq ?_
  split at hx
  ·rename_i s1 h1
   refine ihx rf hrf g lb own s .normal s1 a w _ hs h1 fun g1 lb1 own1 a1 w1 k1 k2 => ?_
   exact ihy rf hrf g1 lb1 own1 s1 ex s' a1 w1 Q k2 hx fun g2 lb2 own2 a2 w2 k3 k4 => hQ _ _ _ _ _ (k1.trans k3) k4
  ·rename_i hne
   refine ihx rf hrf g lb own s ex s' a w _ hs hx fun g1 lb1 own1 a1 w1 k1 k2 => ?_
   have := hQ _ _ _ _ _ k1 k2
   cases ex with
   | normal => exact absurd hx (hne _)
   | exit i => exact this
   | ret => exact this
 | cond x b c ihb ihc =>
  intro rf hrf g lb own s ex s' a w Q hs hx hQ
  simp only [cCode] at hx
  split at hx
  ·rename_i x' hx'
   simp only [exec] at hx
   split at hx
   ·rename_i t ht
    have hv := hs.ev _ _ hx'
    rw [ht] at hv
    have hb : a.eval x = .bool t := by
     generalize a.eval x = y at hv
     cases hv; rfl
    refine wpIn_cond hb ?_
    cases t with
    | true => exact ihb rf hrf g lb own s ex s' a w Q hs hx hQ
    | false => exact ihc rf hrf g lb own s ex s' a w Q hs hx hQ
   ·cases hx
  ·cases hx
 | block id b ih =>
  intro rf hrf g lb own s ex s' a w Q hs hx hQ
  simp only [cCode,exec] at hx
  refine wpIn_block ?_
  split at hx
  ·rename_i i s1 h1
   refine ih rf hrf g lb own s (.exit i) s1 a w _ hs h1 fun g1 lb1 own1 a1 w1 k1 k2 => ?_
   simp only [Ex.exit',Exit.inBlock]
   split at hx
   ·rename_i hi; rw [if_pos hi]; cases hx; exact hQ _ _ _ _ _ k1 k2
   ·rename_i hi; rw [if_neg hi]; cases hx; exact hQ _ _ _ _ _ k1 k2
  ·rename_i hne
   refine ih rf hrf g lb own s ex s' a w _ hs hx fun g1 lb1 own1 a1 w1 k1 k2 => ?_
   have := hQ _ _ _ _ _ k1 k2
   cases ex with
   | normal => exact this
   | exit i => exact absurd hx (hne _ _)
   | ret => exact this
 | loop b ih =>
  intro rf hrf g lb own s ex s' a w Q hs hx hQ
  simp only [cCode,exec] at hx
  refine wpIn_loop_rounds m ?_
  have key : ∀ (k : Nat) (g : Gh) (lb : LB) (own : OW) (s : St) (a : Act) (w : World),SR gl base N LC ent g lb own s a w -> aloop k (exec gl callv (aloop m) (cCode P esc N rf b)) s = some (ex,s') →
    (∀ g' lb' own' a' w',Steps' g own w g' own' w' -> SR gl base N LC ent g' lb' own' s' a' w' -> Q ex.exit' a' w') -> Code.roundsIn F n P b Q k a w := by
   intro k
   induction k with
   | zero => intro g lb own s a w _ hx _; simp [aloop] at hx
   | succ k ihk =>
    intro g lb own s a w hs hx hQ
    simp only [aloop] at hx
    rw [roundsIn_succ]
    split at hx
    ·rename_i s1 h1
     refine ih rf hrf g lb own s .normal s1 a w _ hs h1 fun g1 lb1 own1 a1 w1 k1 k2 => ?_
     exact ihk g1 lb1 own1 s1 a1 w1 k2 hx fun g2 lb2 own2 a2 w2 k3 k4 => hQ _ _ _ _ _ (k1.trans k3) k4
    ·rename_i hne
     refine ih rf hrf g lb own s ex s' a w _ hs hx fun g1 lb1 own1 a1 w1 k1 k2 => ?_
     have := hQ _ _ _ _ _ k1 k2
     cases ex with
     | normal => exact absurd hx (hne _)
     | exit i => exact this
     | ret => exact this
  exact key m g lb own s a w hs hx hQ
 | rangeFunc f ps asg body iha ihb =>
  intro rf hrf g lb own s ex s' a w Q hs hx hQ
  simp only [cCode] at hx
  split at hx
  ·rename_i f' hf'
   split at hx
   ·rename_i hc
    simp only [Bool.and_eq_true,List.all_eq_true,decide_eq_true_eq] at hc
    exact rfun_sound hF hd (hrf hc.1) hcall hbody hK hs hf' (hLC asg) (hLC body) hc.2 hx hQ
   ·cases hx
  ·cases hx
 | scope b ih =>
  intro rf hrf g lb own s ex s' a w Q hs hx hQ
  simp only [cCode] at hx
  refine wpIn_scope' (ih rf hrf g lb own s ex s' a w _ hs hx fun g1 lb1 own1 a1 w1 k1 k2 => ?_)
  have := hQ _ _ _ _ _ k1 k2
  cases ex <;> exact this
 | goto l => intro rf hrf g lb own s ex s' a w Q hs hx hQ; cases hx
 | refuse why => intro rf hrf g lb own s ex s' a w Q hs hx hQ; cases hx
end
end Go.Abs
namespace Go.Abs
section
variable (P : Program)
def cRes : ResultVar -> Option RV
 | .tmp t => some (.tmp t)
 | .cell a t => match tyAg P t,tySz P t with
  | some ag,some n => some (.cell a ag n)
  | _,_ => none
def cRess : List ResultVar -> Option (List RV)
 | [] => some []
 | r :: l => match cRes P r,cRess l with
  | some a,some m => some (a :: m)
  | _,_ => none
end
section
variable {F : Fence} {n : Nat} {P : Program} {esc : Nat -> Bool} {N : Nat} {gl : Nat -> AV} {base : Nat} {LC : LCR} {ent : Nat} {callv : CallV}
variable {g : Gh} {lb : LB} {own : OW} {s : St} {a : Act} {w : World}
theorem res_spec (hs : SR gl base N LC ent g lb own s a w) {rv : ResultVar} {r : RV} (hc : cRes P rv = some r) {v : AV} (hv : r.get s = some v) :
  ∃ x,((match rv with | .tmp t => pure (a.tmps.getD t undef) | .cell p t => do loadVar t (<- asAddr (a.tmps.getD p undef)) : Sem Value).run P w = .ok x w) /\ VR g lb v x := by
 cases rv with
 | tmp t =>
  cases hc
  simp only [RV.get,Option.some.injEq] at hv
  subst hv
  exact ⟨_,rfl,hs.env t⟩
 | cell p t =>
  simp only [cRes] at hc
  split at hc
  ·rename_i ag m hag hm
   cases hc
   simp only [RV.get] at hv
   split at hv
   ·rename_i cs hrd
    obtain ⟨b,off,vs,e1,e2,e3,e4,e5,e6⟩ := rd_spec hs.mem hs.loc (hs.env p) hrd
    obtain ⟨s1,s2,s3⟩ := tySz_spec (P := P) (w := w) hm
    have hag' := tyAg_spec (w := w) hag
    obtain ⟨k1,k2⟩ := asElem_spec (a := vs.toArray) (g := g) (lb := lb) ⟨by simp; omega,fun i hi hi' => e5 i hi (by simpa using hi')⟩ (by simpa using e6) hv
    have hcell : ∀ j v,vs[j]? = some v -> w.cell? ((⟨b,off,none⟩ : Addr).add j) = some v := fun j v hj => by rw [Addr.add_mid]; exact e4 j v hj
    cases ag with
    | true =>
     refine ⟨_,?_,k1 rfl⟩
     have hload := run_loadCells_list (P := P) w ⟨b,off,none⟩ vs hcell
     simp only [e1,asAddr,Sem.run_bind,Sem.run_pure,Result.andThen_ok,loadVar,hag',if_true,s1]
     rw [<- e2]
     simp only [hload,Result.andThen_ok]
    | false =>
     obtain ⟨z,hz,hvr⟩ := k2 rfl
     have hvs : vs = [z] := by simpa using hz
     subst hvs
     have h0 : w.cell? ⟨b,off,none⟩ = some z := by simpa using e4 0 z (by simp)
     refine ⟨z,?_,hvr⟩
     simp only [e1,asAddr,Sem.run_bind,Sem.run_pure,Result.andThen_ok,loadVar,hag',Bool.false_eq_true,if_false,run_load,h0]
   ·cases hv
  ·cases hc
theorem ress_spec (hs : SR gl base N LC ent g lb own s a w) : ∀ (rvs : List ResultVar) (rs : List RV) (l : List AV),cRess P rvs = some rs -> gets s rs = some l →
  ∃ xs,(rvs.mapM (fun rv => (match rv with | .tmp t => pure (a.tmps.getD t undef) | .cell p t => do loadVar t (<- asAddr (a.tmps.getD p undef)) : Sem Value))).run P w = .ok xs w /\ PW (VR g lb) l xs := by
 intro rvs
 induction rvs with
 | nil =>
  intro rs l h1 h2
  cases h1; cases h2
  exact ⟨[],rfl,PW.nil⟩
 | cons rv rvs ih =>
  intro rs l h1 h2
  simp only [cRess] at h1
  split at h1
  ·rename_i r m k1 k2
   cases h1
   simp only [gets] at h2
   split at h2
   ·rename_i v hv
    simp only [Option.map_eq_some_iff] at h2
    obtain ⟨l',h2,rfl⟩ := h2
    obtain ⟨x,q1,q2⟩ := res_spec hs k1 hv
    obtain ⟨xs,q3,q4⟩ := ih m l' k2 h2
    refine ⟨x :: xs,?_,PW.cons q2 q4⟩
    simp only [List.mapM_cons,Sem.run_bind,q1,Result.andThen_ok,q3,Sem.run_pure]
   ·cases h2
  ·cases h1
theorem results_spec (hs : SR gl base N LC ent g lb own s a w) {fn : Func} {rs : List RV} (hc : cRess P fn.results.toList = some rs) {l : List AV} (hl : gets s rs = some l) :
  ∃ x,(results fn a.tmps).run P w = .ok x w /\ VR g lb (tupled l) x := by
 obtain ⟨xs,h1,h2⟩ := ress_spec hs _ _ _ hc hl
 have hr : (results fn a.tmps).run P w = .ok (if h : xs.toArray.size = 1 then xs.toArray[0] else .tuple xs.toArray) w := by
  unfold results
  rw [Array.mapM_eq_mapM_toList]
  simp only [Sem.run_bind,map_eq_pure_bind]
  erw [h1]
  rfl
 refine ⟨_,hr,?_⟩
 match l,xs,h2 with
 | [],[],h2 => exact .tup _ [] _ rfl (fun i hi => by simp at hi)
 | [v],[x],h2 => exact h2.2 0 (by simp) (by simp)
 | v :: v' :: l,x :: x' :: xs,h2 =>
  have : ¬(x :: x' :: xs).toArray.size = 1 := by simp
  rw [dif_neg this]
  exact .tup _ _ _ (by simpa using h2.1.symm) (fun i hi hi' => by have := h2.2 i hi (by simpa using hi'); simpa using this)
 | [],_ :: _,h2 => exact absurd h2.1 (by simp)
 | [_],[],h2 => exact absurd h2.1 (by simp)
 | [_],_ :: _ :: _,h2 => exact absurd h2.1 (by simp)
 | _ :: _ :: _,[],h2 => exact absurd h2.1 (by simp)
 | _ :: _ :: _,[_],h2 => exact absurd h2.1 (by simp)
theorem take_marks {g0 : Gh} {own0 : OW} {w0 : World} (he : w0.heap.size <= ent) {fn : Func} {T : Array Value} {R : Ending -> World -> Prop} : ∀ (ms : List Nat) (w : World),ms.Nodup -> (∀ r ∈ ms,ent <= r /\ r < w.heap.size /\ own r = none /\ w.heap[r]? = some (.deferred (some []))) -> Steps' g0 own0 w0 g own w →
   SR gl base N LC ent g lb own s { tmps := T,defers := ms.map markOf } w →
   (∀ w',Steps' g0 own0 w0 g own w' -> SR gl base N LC ent g lb own s { tmps := T,defers := [] } w' -> LeavesInM F n P fn T R [] .returning w') -> LeavesInM F n P fn T R (ms.map markOf) .returning w := by
 intro ms
 induction ms with
 | nil => intro w _ _ h1 h2 hK; exact hK w h1 h2
 | cons r ms ih =>
  intro w hnd hms h1 h2 hK
  obtain ⟨k1,k2,k3,k4⟩ := hms r (by simp)
  obtain ⟨hnr,hnd⟩ := List.nodup_cons.1 hnd
  have hother : ∀ b',b' ≠ r -> (setObjW w r (.deferred none)).heap[b']? = w.heap[b']? := fun b' hne => by
   simp only [setObjW]; rw [Array.getElem?_setIfInBounds_ne (Ne.symm hne)]
  have hsz : (setObjW w r (.deferred none)).heap.size = w.heap.size := by simp [setObjW]
  refine ⟨by simp,.inl ⟨r,setObjW w r (.deferred none),rfl,?_,ih _ hnd (fun r' hr' => ?_) ?_ ?_ hK⟩⟩
  ·have q1 : (getObj r).run P w = .ok (.deferred (some [])) w := by simp only [getObj,Sem.run,k4]
   have q2 : ∀ y,(setObj r y).run P w = .ok () (setObjW w r y) := fun y => by simp only [setObj,Sem.run,k4]; rfl
   simp only [Instr.takeDeferred,Sem.run_bind,q1,Result.andThen_ok,q2,Sem.run_pure]
  ·obtain ⟨j1,j2,j3,j4⟩ := hms r' (List.mem_cons_of_mem _ hr')
   exact ⟨j1,by rw [hsz]; exact j2,j3,by rw [hother r' (by rintro rfl; exact hnr hr')]; exact j4⟩
  ·exact ⟨h1.sub,by rw [hsz]; exact h1.size,h1.os,h1.tape,h1.output,fun b hb ho => by rw [hother b (by omega)]; exact h1.keep b hb ho,h1.unown,h1.im⟩
  ·have hno : ∀ b o,own b = some o -> b ≠ r := fun b o hb => by rintro rfl; rw [k3] at hb; cases hb
   refine ⟨h2.env,h2.gl,h2.size,?_,h2.mem.keep (Gh.sub_refl _) (fun _ h => h) (fun _ _ h => h) (fun id b hb => ⟨rfl,hother b (hno b _ hb),fun _ => rfl⟩) (fun b o y hy => ?_),
    h2.loc.keep (Gh.sub_refl _) (fun d b hb => ⟨rfl,hother b (hno b _ hb),fun _ => rfl⟩),⟨fun b o hb => by rw [hsz]; exact h2.own.ge b o hb,by rw [hsz]; exact h2.own.base⟩⟩
   ·refine ⟨by rw [hsz]; exact h2.defers.1,ms,hnd,rfl,fun r' hr' => ?_⟩
    obtain ⟨j1,j2,j3,j4⟩ := hms r' (List.mem_cons_of_mem _ hr')
    exact ⟨j1,by rw [hsz]; exact j2,j3,by rw [hother r' (by rintro rfl; exact hnr hr')]; exact j4⟩
   ·have hne : b ≠ r := by
     rintro rfl
     have := h2.mem.im _ _ _ hy
     simp [World.cell?,k4] at this
    rw [cell?_of_heap (hother b hne)]; exact h2.mem.im _ _ _ hy
end
end Go.Abs
