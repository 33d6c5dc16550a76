/- A text of this proof. -/
import Derived.Test.YtiigojkfojnedaaGreatDoorPU
set_option linter.unusedVariables false
set_option linter.unusedSimpArgs false
namespace Go.Abs
section
variable {F : Fence} {n : Nat} {P : Program} {esc : Nat -> Bool} {N : Nat} {gl : Nat -> AV} {base : Nat} {LC : LCR} {ent : Nat} {callv : CallV}
variable {ops : Array Oper} {Q : Exit -> Act -> World -> Prop}
theorem SR.congr {g : Gh} {lb : LB} {own : OW} {s s' : St} {a : Act} {w : World} (h : SR gl base N LC ent g lb own s a w) (hr : ∀ r,agree r s s') : SR gl base N LC ent g lb own s' a w := {
 env t := by have := hr (.env t); simp only [agree] at this; rw [<- this]; exact h.env t
 gl := h.gl
 size := h.size
 defers := h.defers
 mem := by have := hr .mem; simp only [agree] at this; rw [<- this]; exact h.mem
 loc := by
  have : lget s.loc = lget s'.loc := funext fun d => hr (.loc d)
  rw [<- this]; exact h.loc
 own := h.own }
theorem SR.drawn {g : Gh} {lb : LB} {own : OW} {s : St} {a : Act} {w : World} (h : SR gl base N LC ent g lb own s a w) (d : Nat) :
  SR gl base N LC ent g lb own s a { w with drawn := d } /\ Steps' g own w g own { w with drawn := d } := by
 refine ⟨⟨h.env,h.gl,h.size,h.defers.keep (g := g) (g' := g) ⟨g.sub_refl,Nat.le_refl _,rfl,rfl,rfl,fun _ _ _ => rfl,fun _ _ h => h,fun _ _ _ _ => rfl⟩,?_,?_,?_⟩,g.sub_refl,Nat.le_refl _,rfl,rfl,rfl,fun _ _ _ => rfl,fun _ _ h => h,fun _ _ _ _ => rfl⟩
 ·exact ⟨h.mem.dom,h.mem.rdom,fun id blk hb => (h.mem.blk id blk hb).keep g.sub_refl (fun _ _ => ⟨rfl,rfl,fun _ => rfl⟩) (fun _ h => h) (fun h => h),fun b o x hx => (cell?_of_heap (w := w) rfl).trans (h.mem.im b o x hx)⟩
 ·exact ⟨fun d v l hd => by
    obtain ⟨b,h1,h2⟩ := h.loc.cells d v l hd
    exact ⟨b,h1,h2.keep g.sub_refl (fun _ _ _ h => h) rfl rfl fun _ => rfl⟩,h.loc.iter,h.loc.ver⟩
 ·exact ⟨h.own.ge,h.own.base⟩
theorem ops_sound (hF : ∀ f,F.fn f) (hd : F.depth = none) (hcall : CallOK F P base LC gl callv) {l : List AOp} (hc : cOps P esc N ops ops.toList = some l) :
  ∀ (m k : Nat) (g : Gh) (lb : LB) (own : OW) (s s' : St) (a : Act) (w : World),k + m = ops.size -> SR gl base N LC ent g lb own s a w -> aops gl callv (l.drop k) s = some s' →
   (∀ g' lb' own' a' w',Steps' g own w g' own' w' -> SR gl base N LC ent g' lb' own' s' a' w' -> Q .normal a' w') -> wpOpsIn F n P ops Q ((List.range m).map (· + k)) a w := by
 intro m
 induction m with
 | zero =>
  intro k g lb own s s' a w hk hs hx hQ
  have hlen := cOps_len hc
  rw [List.drop_of_length_le (by simp at hlen; omega)] at hx
  cases hx
  simpa [wpOpsIn] using hQ _ _ _ _ _ (Steps'.refl _ _ _) hs
 | succ m ih =>
  intro k g lb own s s' a w hk hs hx hQ
  have hk' : k < ops.size := by omega
  obtain ⟨o',ho',hco⟩ := cOps_at hc (i := k) (o := ops[k]) (by simp [hk'])
  have hlt := (List.getElem?_eq_some_iff.1 ho').1
  have ho'' := (List.getElem?_eq_some_iff.1 ho').2
  rw [List.drop_eq_getElem_cons hlt,ho''] at hx
  simp only [aops] at hx
  split at hx
  ·rename_i s1 hst
   have hr : (List.range (m + 1)).map (· + k) = k :: (List.range m).map (· + (k + 1)) := by
    rw [List.range_succ_eq_map]
    simp [List.map_map,Function.comp_def,Nat.add_assoc,Nat.add_comm 1 k]
   rw [hr,wpOpsIn_cons]
   refine step_sound hF hd hcall (Array.getElem?_eq_getElem hk') hco hs hst fun g' lb' own' a' w' h1 h2 => ?_
   exact ih (k + 1) g' lb' own' s1 s' a' w' (by omega) h2 hx fun g2 lb2 own2 a2 w2 h3 h4 => hQ _ _ _ _ _ (h1.trans h3) h4
  ·cases hx
def lst (listed : Array Bool) (j : Nat) : Prop := listed.getD j false = true
theorem lst_set {listed : Array Bool} {i : Nat} (hi : i < listed.size) (j : Nat) : lst (listed.setIfInBounds i true) j ↔ lst listed j \/ j = i := by
 unfold lst
 by_cases h : i = j
 ·subst h; simp [hi]
 ·rw [getD_set_ne false h]
  exact ⟨.inl,fun h' => h'.resolve_right fun e => h e.symm⟩
theorem not_lst {listed : Array Bool} {i : Nat} (hi : i < listed.size) : ¬lst listed i ↔ listed.getD i true = false := by
 unfold lst
 simp [hi]
theorem closed_preds (he : edgesGo ops.toList 0 = true) {listed : Array Bool} (hcl : ∀ i o,ops[i]? = some o -> lst listed i -> ∀ e ∈ o.after,Region.binds .any e = true -> lst listed e.on)
  (hsz : listed.size = ops.size) : ∀ j i,i ∈ (preds ops).getD j [] -> lst listed j -> lst listed i := by
 intro j
 induction j using Nat.strongRecOn with
 | _ j ih =>
  intro i hi hj
  have hjs : j < ops.size := by
   rcases Nat.lt_or_ge j ops.size with h | h
   ·exact h
   ·unfold lst at hj; simp [Array.getElem?_eq_none (hsz ▸ h)] at hj
  obtain ⟨e,h1,h2,h3,h4⟩ := preds_at he (Array.getElem?_eq_getElem hjs) hi
  have := hcl j _ (Array.getElem?_eq_getElem hjs) hj e h1 h2
  rcases h4 with rfl | h4
  ·exact this
  ·exact ih e.on h3 i h4 this
theorem preds_lt (he : edgesGo ops.toList 0 = true) : ∀ j i,i ∈ (preds ops).getD j [] -> i < j := by
 intro j
 induction j using Nat.strongRecOn with
 | _ j ih =>
  intro i hi
  rcases Nat.lt_or_ge j ops.size with hjs | hjs
  ·obtain ⟨e,h1,h2,h3,h4⟩ := preds_at he (Array.getElem?_eq_getElem hjs) hi
   rcases h4 with rfl | h4
   ·exact h3
   ·have := ih e.on h3 i h4; omega
  ·obtain ⟨rest,h1,h2⟩ := predsGo_spec ops.toList []
   have hl : (preds ops).length = ops.size := by simp [preds,h1,h2]
   rw [List.getD_eq_getElem?_getD,List.getElem?_eq_none (by omega)] at hi
   simp at hi
theorem isSt_of {l : List AOp} {j : Nat} {o : AOp} (h : l[j]? = some o) (hc : o.cls = .eff true) : isSt l j = true := by
 simp only [isSt,h]
 obtain ⟨dst,op,gd⟩ := o
 cases op with
 | alloc g z => cases g <;> cases dst <;> simp [AOp.cls] at hc
 | box g n x => cases g <;> cases dst <;> simp [AOp.cls] at hc
 | rng x => cases dst <;> simp [AOp.cls] at hc
 | st => rfl
 | _ => simp [AOp.cls] at hc
theorem orderly_of {l : List AOp} {s : St} {tr : List St} (he : edgesGo ops.toList 0 = true) (hok : drawOK l (preds ops) = true) (htr : ascan gl callv l s = some tr)
  (hcf : (pairs l (preds ops) isLoad isCall).all (fun p => chkLoad gl l tr p.1 p.2) = true) (haf : (pairs l (preds ops) isNew isLoad).all (fun p => chkNew gl l tr p.1 p.2) = true) :
  Trace gl callv l (fun i => tr.getD i s) /\ Orderly gl l (fun i => tr.getD i s) (fun i j => i ∈ (preds ops).getD j []) := by
 obtain ⟨h1,h2,h3⟩ := ascan_at htr
 have hT : Trace gl callv l (fun i => tr.getD i s) := by
  refine ⟨fun i o ho => ?_⟩
  obtain ⟨a,b,k1,k2,k3⟩ := h3 i o ho
  simpa [List.getD_eq_getElem?_getD,k1,k2] using k3
 have hcmp : ∀ i j,¬i ∈ (preds ops).getD j [] -> ¬j ∈ (preds ops).getD i [] -> cmp (preds ops) i j = false := by
  intro i j h h'
  simp only [cmp,Bool.or_eq_false_iff]
  exact ⟨by simpa using h,by simpa using h'⟩
 refine ⟨hT,⟨fun i j h => preds_lt he j i h,?_,?_,?_,?_⟩⟩
 ·intro i j oi oj hi hj hne n1 n2
  have hi' := (List.getElem?_eq_some_iff.1 hi).1
  have hj' := (List.getElem?_eq_some_iff.1 hj).1
  simp only [drawOK,List.all_eq_true,List.mem_range] at hok
  have := hok j hj' i hi'
  simpa [hne,hcmp i j n1 n2,hi,hj] using this
 ·intro i j oi oj ag m a hi hj hop hcl n1 n2 hw id off hp
  have hmem := mem_pairs (p := isLoad) (q := isCall) hi hj (by rw [cls_ld hop]; rfl) (by rcases hcl with hcl | hcl <;> (rw [hcl]; rfl)) (hcmp i j n1 n2)
  have hchk := List.all_eq_true.1 hcf _ hmem
  obtain ⟨si,_,k1,_,_⟩ := h3 i oi hi
  obtain ⟨sj,sj',k3,k4,_⟩ := h3 j oj hj
  simp only [List.getD_eq_getElem?_getD,k1,k3,k4,Option.getD_some] at hw hp ⊢
  simp only [chkLoad,hi,k1,k3,k4] at hchk
  split at hchk
  ·rename_i hwf; exact absurd hwf hw
  ·rename_i ag' m' a' hop' _
   rw [hop] at hop'; cases hop'
   rw [hp] at hchk
   simp only [Bool.and_eq_true] at hchk
   exact ⟨eqRd_eq hchk.1,eqRd_eq hchk.2⟩
  ·cases hchk
 ·intro i j oi oj ag m a hi hj hop hcl n1 n2 hw d v off hp
  have hmem := mem_pairs (p := isLoad) (q := isCall) hi hj (by rw [cls_ld hop]; rfl) (by rw [hcl]; rfl) (hcmp i j n1 n2)
  have hchk := List.all_eq_true.1 hcf _ hmem
  obtain ⟨si,_,k1,_,_⟩ := h3 i oi hi
  obtain ⟨sj,sj',k3,k4,_⟩ := h3 j oj hj
  simp only [List.getD_eq_getElem?_getD,k1,k3,k4,Option.getD_some] at hw hp ⊢
  simp only [chkLoad,hi,k1,k3,k4] at hchk
  split at hchk
  ·rename_i hwf; exact absurd hwf hw
  ·rename_i ag' m' a' hop' _
   rw [hop] at hop'; cases hop'
   rw [hp] at hchk
   simp only [isSt_of hj hcl,Bool.not_true,Bool.false_or,Bool.and_eq_true] at hchk
   exact ⟨eqRd_eq hchk.1,eqRd_eq hchk.2⟩
  ·cases hchk
 ·intro i j oi oj ag m a d hi hj hop hcl n1 n2 v off hp
  have hmem := mem_pairs (p := isNew) (q := isLoad) hi hj (by rw [hcl]; rfl) (by rw [cls_ld hop]; rfl) (hcmp i j n1 n2)
  have hchk := List.all_eq_true.1 haf _ hmem
  obtain ⟨sj,sj',k3,k4,_⟩ := h3 j oj hj
  simp only [List.getD_eq_getElem?_getD,k3,Option.getD_some] at hp
  simp only [chkNew,hi,hj,k3,hop,hp,new_dst hcl] at hchk
  simp at hchk
theorem any_sound (hF : ∀ f,F.fn f) (hd : F.depth = none) (hcall : CallOK F P base LC gl callv) {l : List AOp} (hc : cOps P esc N ops ops.toList = some l) {T : Nat -> St}
  (he : edgesGo ops.toList 0 = true) (hT : Trace gl callv l T) (hO : Orderly gl l T (fun i j => i ∈ (preds ops).getD j [])) :
  ∀ (fuel : Nat) (listed : Array Bool) (g : Gh) (lb : LB) (own : OW) (s : St) (a : Act) (w : World),listed.size = ops.size -> listed.countP (fun b => !b) <= fuel →
   (∀ i o,ops[i]? = some o -> lst listed i -> ∀ e ∈ o.after,Region.binds .any e = true -> lst listed e.on) -> Inv l T (lst listed) s -> SR gl base N LC ent g lb own s a w →
   (∀ g' lb' own' a' w',Steps' g own w g' own' w' -> SR gl base N LC ent g' lb' own' (T l.length) a' w' -> Q .normal a' w') -> wpAnyIn F n P .any ops Q fuel listed a w := by
 have hlen := cOps_len hc
 simp only [Array.length_toList] at hlen
 have hend : ∀ (listed : Array Bool) (g : Gh) (lb : LB) (own : OW) (s : St) (a : Act) (w : World),listed.size = ops.size -> Inv l T (lst listed) s -> SR gl base N LC ent g lb own s a w →
   (∀ g' lb' own' a' w',Steps' g own w g' own' w' -> SR gl base N LC ent g' lb' own' (T l.length) a' w' -> Q .normal a' w') -> Region.ready .any ops listed = [] -> Q .normal a w := by
  intro listed g lb own s a w hsz hI hs hQ hr
  have hall : ∀ i,i < ops.size -> lst listed i := by
   intro i
   induction i using Nat.strongRecOn with
   | _ i ih =>
    intro hi
    refine Classical.byContradiction fun hn => ?_
    have : i ∈ Region.ready .any ops listed := by
     refine mem_ready.2 ⟨(not_lst (by omega)).1 hn,_,Array.getElem?_eq_getElem hi,fun e hm hb => ?_⟩
     have := edges_at he (i := i) (o := ops[i]) (by simp [hi]) e hm hb
     exact ih e.on (by omega) (by omega)
    rw [hr] at this; cases this
  refine hQ _ _ _ _ _ (Steps'.refl _ _ _) (hs.congr fun r => hI r l.length (Nat.le_refl _) (fun j o hj _ _ => hall j (by omega)) fun j o hj ho _ _ => ?_)
  have := (List.getElem?_eq_some_iff.1 ho).1
  omega
 intro fuel
 induction fuel with
 | zero =>
  intro listed g lb own s a w hsz hcnt hcl hI hs hQ
  have hr : Region.ready .any ops listed = [] := by
   refine List.eq_nil_iff_forall_not_mem.2 fun i hi => ?_
   obtain ⟨h1,o,h2,_⟩ := mem_ready.1 hi
   have hlt : i < listed.size := by rw [hsz]; exact (Array.getElem?_eq_some_iff.1 h2).1
   have h0 : listed.countP (fun b => !b) = 0 := by omega
   rw [Array.countP_eq_zero] at h0
   have := h0 listed[i] (Array.getElem_mem hlt)
   simp [hlt] at h1
   simp [h1] at this
  exact ⟨hr,hend listed g lb own s a w hsz hI hs hQ hr⟩
 | succ fuel ih =>
  intro listed g lb own s a w hsz hcnt hcl hI hs hQ
  refine ⟨hend listed g lb own s a w hsz hI hs hQ,fun i hi => ?_⟩
  obtain ⟨h1,o,h2,h3⟩ := mem_ready.1 hi
  have hlt : i < listed.size := by rw [hsz]; exact (Array.getElem?_eq_some_iff.1 h2).1
  have hun : ¬lst listed i := (not_lst hlt).2 h1
  obtain ⟨o',ho',hco⟩ := cOps_at hc (i := i) (o := o) (by simpa using h2)
  have hclp := closed_preds he hcl hsz
  have hrdy : ∀ j,j ∈ (preds ops).getD i [] -> lst listed j := by
   intro j hj
   obtain ⟨e,k1,k2,k3,k4⟩ := preds_at he h2 hj
   have := h3 e k1 k2
   rcases k4 with rfl | k4
   ·exact this
   ·exact hclp _ _ k4 this
  obtain ⟨s1,k1,k2⟩ := orderly_step hT hO hI (fun i j h h' => hclp j i h h') ho' hun hrdy
  refine step_sound hF hd hcall h2 hco hs k1 fun g' lb' own' a' w' h4 h5 => ?_
  refine ih _ g' lb' own' s1 a' w' (by simpa using hsz) ?_ ?_ ?_ h5 fun g2 lb2 own2 a2 w2 h6 h7 => hQ _ _ _ _ _ (h4.trans h6) h7
  ·have hx : listed[i] = false := by simpa [hlt] using h1
   rw [Array.setIfInBounds_def,dif_pos hlt,Array.countP_set]
   simp [hx]
   omega
  ·intro j oj hj hl e hm hb
   rw [lst_set hlt] at hl ⊢
   rcases hl with hl | rfl
   ·exact .inl (hcl j oj hj hl e hm hb)
   ·rw [h2] at hj; cases hj
    exact .inl (h3 e hm hb)
  ·have : lst (listed.setIfInBounds i true) = fun j => lst listed j \/ j = i := funext fun j => propext (lst_set hlt j)
   rw [this]; exact k2
end
section
variable (P : Program) (esc : Nat -> Bool) (N : Nat)
def pubD (l : List AOp) : List Nat := l.filterMap fun o => match o.op with
 | .alloc true _ | .box true _ _ => o.dst
 | _ => none
def cRegion (ops : Array Oper) (draw : Bool) : AC := match cOps P esc N ops ops.toList with
 | some l => if draw then (if P.follows .mixedOrders && edgesGo ops.toList 0 && drawOK l (preds ops) then .draw l (pairs l (preds ops) isLoad isCall) (pairs l (preds ops) isNew isLoad) else
   match cOps P (fun _ => false) N ops ops.toList with
   | some l' => if P.follows .mixedOrders && edgesGo ops.toList 0 && drawOK l' (preds ops) then .seq (.draw l' (pairs l' (preds ops) isLoad isCall) (pairs l' (preds ops) isNew isLoad)) (.pub (pubD l)) else .bad
   | none => .bad) else .ops l
 | none => .bad
def cCode : Bool -> Code -> AC
 | _,.skip => .skip
 | _,.region _ ops draw => cRegion P esc N ops draw
 | rf,.seq a b => .seq (cCode rf a) (cCode rf b)
 | rf,.cond x a b => match cOpd x with
  | some x => .cond x (cCode rf a) (cCode rf b)
  | none => .bad
 | rf,.block id a => .block id (cCode rf a)
 | rf,.loop a => .loop (cCode rf a)
 | _,.exit id => .exit id
 | _,.ret => .ret
 | _,.label _ => .skip
 | rf,.scope a => cCode rf a
 | rf,.rangeFunc f ps asg body => match cOpd f with
  | some f => if rf && ps.toList.all (fun p => decide (p < N)) then .rfun f ps.toList (cCode false asg) (cCode false body) else .bad
  | none => .bad
 | _,_ => .bad
end
def Ex.exit' : Ex -> Exit
 | .normal => .normal
 | .exit i => .exit i
 | .ret => .ret
section
variable {F : Fence} {n : Nat} {P : Program} {esc : Nat -> Bool} {N : Nat} {gl : Nat -> AV} {base : Nat} {LC : LCR} {ent : Nat} {callv : CallV}
theorem pub1_sound {d : Nat} {g : Gh} {lb : LB} {own : OW} {s s' : St} {a : Act} {w : World} (hs : SR gl base N LC ent g lb own s a w) (h : pub1 d s = some s') :
  ∃ g' own',Steps' g own w g' own' w /\ SR gl base N LC ent g' lb own' s' a w := by
 unfold pub1 at h
 split at h
 ·rename_i d' v hd
  split at h
  ·rename_i v' l hl
   split at h
   ·rename_i hdv
    obtain ⟨rfl,rfl⟩ := hdv
    cases h
    obtain ⟨b,hb,hc⟩ := hs.loc.cells _ _ _ hl
    have hnone : g.mb s.mem.blks.length = none := by
     cases hx : g.mb s.mem.blks.length with
     | none => rfl
     | some y => have := hs.mem.dom _ _ hx; omega
    let mb' : Nat -> Option Nat := fun id => if id = s.mem.blks.length then some b else g.mb id
    let own' : OW := fun b' => if b' = b then some (.m s.mem.blks.length) else own b'
    have hsub : g.sub { g with mb := mb' } := ⟨fun _ _ _ h => h,fun id c hc => by
     simp only [mb']; rw [if_neg (fun he => by rw [he,hnone] at hc; cases hc)]; exact hc,fun _ _ _ h => h⟩
    have hst : Steps' g own w { g with mb := mb' } own' w := ⟨hsub,Nat.le_refl _,rfl,rfl,rfl,fun _ _ _ => rfl,fun b' _ hb' => by
     simp only [own']; rw [if_neg (fun he => by rw [he,hc.1] at hb'; cases hb')]; exact hb',fun _ _ _ _ => rfl⟩
    have hm' : MemR g own' LC s.mem w := hs.mem.keep g.sub_refl (fun _ h => h) (fun _ _ h => h) (fun id b' hb' => ⟨by
     simp only [own']; rw [if_neg (fun he => by rw [he,hc.1] at hb'; cases hb')],rfl,fun _ => rfl⟩) hs.mem.im
    refine ⟨{ g with mb := mb' },own',hst,⟨fun t => ?_,hs.gl.mono hsub,hs.size,hs.defers.keep hst,?_,?_,⟨fun b' o hb' => ?_,hs.own.base⟩⟩⟩
    ·have ht := (hs.env t).sub hsub
     simp only [getE_setE]
     split
     ·rename_i hdt
      subst hdt
      rw [hd] at ht
      generalize a.tmps.getD _ undef = x at ht
      cases ht with
      | lptr _ _ _ _ b' hb' =>
       rw [hb] at hb'
       cases hb'
       exact .gptr _ _ _ _ (by simp [mb'])
     ·exact ht
    ·refine hs.mem.push hm' _ mb' (fun id c hc => ?_) (fun id hid => if_neg (by omega)) ?_
     ·simp only [mb'] at hc
      split at hc
      ·exact .inr (by assumption)
      ·exact .inl hc
     ·obtain ⟨_,h2,ar,e,h3,h4,h5,h6⟩ := hc
      refine ⟨b,by simp [mb'],by simp [own'],h2,ar,e,h3,by simpa using h4,fun i hi hi' => ?_,h6⟩
      simp only [List.getElem_map]
      exact (mem_nol hs.mem (h5 i (by simpa using hi) hi')).sub hsub
    ·refine ⟨fun d2 v2 l2 hd2 => ?_,fun d2 v2 s2 p2 hd2 => ?_,fun d2 v2 b2 hb2 => ?_⟩
     ·simp only [lget_lset] at hd2
      split at hd2
      ·cases hd2
      ·rename_i hne
       obtain ⟨b2,k1,k2⟩ := hs.loc.cells _ _ _ hd2
       refine ⟨b2,k1,k2.keep hsub (fun _ _ _ h => h) ?_ rfl fun _ => rfl⟩
       simp only [own']
       rw [if_neg (fun he => by
        have := k2.1
        rw [he,hc.1] at this
        simp only [Option.some.injEq,Own.l.injEq] at this
        exact hne this)]
     ·simp only [lget_lset] at hd2
      split at hd2
      ·cases hd2
      ·rename_i hne
       obtain ⟨b2,k1,k2,k3⟩ := hs.loc.iter _ _ _ _ hd2
       refine ⟨b2,k1,?_,k3⟩
       simp only [own']
       rw [if_neg (fun he => by
        rw [he,hc.1] at k2
        simp only [Option.some.injEq,Own.l.injEq] at k2
        exact hne k2)]
       exact k2
     ·obtain ⟨v3,blk,k1,k2⟩ := hs.loc.ver _ _ _ hb2
      simp only [lget_lset]
      split
      ·rename_i hdd
       subst hdd
       rw [hl] at k1
       cases k1
       exact ⟨_,_,rfl,k2⟩
      ·exact ⟨v3,blk,k1,k2⟩
    ·simp only [own'] at hb'
     split at hb'
     ·rename_i he
      subst he
      exact hs.own.ge _ _ hc.1
     ·exact hs.own.ge _ _ hb'
   ·cases h
  ·cases h
 ·cases h
theorem pubs_sound : ∀ {l : List Nat} {g : Gh} {own : OW} {lb : LB} {s s' : St} {a : Act} {w : World},SR gl base N LC ent g lb own s a w -> pubs l s = some s' →
  ∃ g' own',Steps' g own w g' own' w /\ SR gl base N LC ent g' lb own' s' a w
 | [],g,own,lb,s,s',a,w,hs,h => by cases h; exact ⟨g,own,.refl _ _ _,hs⟩
 | d :: l,g,own,lb,s,s',a,w,hs,h => by
  simp only [pubs] at h
  split at h
  ·rename_i h1
   obtain ⟨g1,own1,k1,k2⟩ := pub1_sound hs h1
   obtain ⟨g2,own2,k3,k4⟩ := pubs_sound k2 h
   exact ⟨g2,own2,k1.trans k3,k4⟩
  ·cases h
theorem drawn_sound (hF : ∀ f,F.fn f) (hd : F.depth = none) (hcall : CallOK F P base LC gl callv) {id : Nat} {ops : Array Oper} {l : List AOp} (hc : cOps P esc N ops ops.toList = some l)
  (hok : (P.follows .mixedOrders && edgesGo ops.toList 0 && drawOK l (preds ops)) = true) {g : Gh} {lb : LB} {own : OW} {s s1 : St} {a : Act} {w : World}
  (hs : SR gl base N LC ent g lb own s a w) (hx : adraw gl callv l (pairs l (preds ops) isLoad isCall) (pairs l (preds ops) isNew isLoad) s = some s1) {Q : Exit -> Act -> World -> Prop}
  (hQ : ∀ g' lb' own' a' w',Steps' g own w g' own' w' -> SR gl base N LC ent g' lb' own' s1 a' w' -> Q .normal a' w') : (Code.region id ops true).wpIn F n P Q a w := by
 simp only [Bool.and_eq_true] at hok
 unfold adraw at hx
 split at hx
 ·rename_i tr htr
  split at hx
  ·rename_i hcc
   simp only [Bool.and_eq_true] at hcc
   obtain ⟨hT,hO⟩ := orderly_of hok.1.2 hok.2 htr hcc.1 hcc.2
   obtain ⟨k1,k2,k3⟩ := ascan_at htr
   have hT0 : tr.getD 0 s = s := by simp [List.getD_eq_getElem?_getD,k2]
   have hTn : tr.getD l.length s = s1 := by
    rw [List.getLast?_eq_getElem?,k1] at hx
    simp at hx
    simp [List.getD_eq_getElem?_getD,hx]
   obtain ⟨d1,d2⟩ := hs.drawn (w.drawn + 1)
   refine wpIn_region_any hok.1.1 (any_sound hF hd hcall hc hok.1.2 hT hO ops.size _ g lb own s a _ (by simp) ?_ ?_ ?_ d1 ?_)
   ·exact Nat.le_trans Array.countP_le_size (by simp)
   ·intro i o ho hl
    unfold lst at hl
    rcases Nat.lt_or_ge i ops.size with h | h <;> simp [h] at hl
   ·intro r k hk h1 h2
    have : ∀ j,¬lst (Array.replicate ops.size false) j := fun j hl => by
     unfold lst at hl
     rcases Nat.lt_or_ge j ops.size with h | h <;> simp [h] at hl
    have hsame := hT.same (r := r) (i := 0) (Nat.zero_le k) hk fun j o _ hj ho hw => this j (h1 j o hj ho hw)
    simp only [hT0] at hsame
    exact agree_symm hsame
   ·intro g' lb' own' a' w' h1 h2
    rw [hTn] at h2
    exact hQ _ _ _ _ _ (d2.trans h1) h2
  ·cases hx
 ·cases hx
theorem region_sound (hF : ∀ f,F.fn f) (hd : F.depth = none) (hcall : CallOK F P base LC gl callv) {id : Nat} {ops : Array Oper} {draw : Bool} {lp : LoopV} {g : Gh} {lb : LB} {own : OW} {s s' : St} {ex : Ex} {a : Act} {w : World}
  (hs : SR gl base N LC ent g lb own s a w) (hx : exec gl callv lp (cRegion P esc N ops draw) s = some (ex,s')) {Q : Exit -> Act -> World -> Prop}
  (hQ : ∀ g' lb' own' a' w',Steps' g own w g' own' w' -> SR gl base N LC ent g' lb' own' s' a' w' -> Q ex.exit' a' w') : (Code.region id ops draw).wpIn F n P Q a w := by
 unfold cRegion at hx
 split at hx
 ·rename_i l hc
  split at hx
  ·rename_i hdr
   subst hdr
   split at hx
   ·rename_i hok
    simp only [exec,Option.map_eq_some_iff,Prod.mk.injEq] at hx
    obtain ⟨s1,hx,rfl,rfl⟩ := hx
    exact drawn_sound hF hd hcall hc hok hs hx hQ
   ·split at hx
    ·rename_i l' hc'
     split at hx
     ·rename_i hok
      simp only [exec] at hx
      cases hx1 : adraw gl callv l' (pairs l' (preds ops) isLoad isCall) (pairs l' (preds ops) isNew isLoad) s with
      | none => rw [hx1] at hx; cases hx
      | some s1 =>
       rw [hx1] at hx
       simp only [Option.map_some,Option.map_eq_some_iff,Prod.mk.injEq] at hx
       obtain ⟨s2,hx,rfl,rfl⟩ := hx
       refine drawn_sound hF hd hcall hc' hok hs hx1 fun g' lb' own' a' w' h1 h2 => ?_
       obtain ⟨g2,own2,k1,k2⟩ := pubs_sound h2 hx
       exact hQ _ _ _ _ _ (h1.trans k1) k2
     ·cases hx
    ·cases hx
  ·rename_i hdr
   obtain rfl : draw = false := by simpa using hdr
   simp only [exec,Option.map_eq_some_iff,Prod.mk.injEq] at hx
   obtain ⟨s1,hx,rfl,rfl⟩ := hx
   refine wpIn_region ?_
   have := ops_sound (n := n) (Q := Q) hF hd hcall hc ops.size 0 g lb own s s1 a w (by simp) hs (by simpa using hx) hQ
   simpa using this
 ·cases hx
end
end Go.Abs
namespace Go.Abs
theorem Gh.cut_cut (g : Gh) (n : Nat) : (g.cut n).cut n = g.cut n := by
 unfold Gh.cut
 congr 1
 ·funext id; by_cases h : id < n <;> simp [h]
 ·funext t m; by_cases h : t < n <;> simp [h]
theorem Gh.cut_sub (g : Gh) (n : Nat) : (g.cut n).sub g :=
 ⟨fun _ _ _ h => h,fun id b h => (by simp only [Gh.cut] at h; split at h <;> first | exact h | cases h),fun t m x h => (by simp only [Gh.cut] at h; split at h <;> first | exact h | cases h)⟩
theorem capOK_lo {g : Gh} {n b o cap id k : Nat} {c : Cap} (h : capOK g n b o cap c) (hl : c.lo id = true) (hk : id < k) : capOK (g.cut k) n b o cap c := by
 cases c with
 | any => trivial
 | nil => exact h
 | full => exact h
 | own t =>
  simp only [Cap.lo,decide_eq_true_eq] at hl
  exact ⟨h.1,by simp only [Gh.cut]; rw [if_pos (by omega)]; exact h.2⟩
theorem lo_cells {id : Nat} {v : AV} (h : lo id v = true) : ∀ x ∈ v.cells,lo id x = true := by
 intro x hx
 cases v with
 | agg l => simp only [lo,los_eq,List.all_eq_true] at h; exact h x hx
 | tup l => cases hx
 | undef => cases hx
 | _ => simp only [AV.cells,List.mem_singleton] at hx; subst hx; exact h
theorem VR.cut_lo {g : Gh} {lb : LB} {v : AV} {x : Value} (h : VR g lb v x) {id n : Nat} (hn : id < n) (hl : lo id v = true) : VR (g.cut n) lb v x := by
 induction h with
 | undef => exact .undef _
 | junk _ x h => exact .junk _ x h
 | int _ k n => exact .int _ k n
 | bool _ b => exact .bool _ b
 | str _ b s h => exact .str _ b s h
 | nilp => exact .nilp _
 | lptr _ d v off b h => exact .lptr _ d v off b h
 | gptr _ id' off b h =>
  simp only [lo,decide_eq_true_eq] at hl
  exact .gptr _ id' off b (by simp only [Gh.cut]; rw [if_pos (by omega)]; exact h)
 | ref _ l b o xs him _ ih =>
  simp only [lo,los_eq,List.all_eq_true] at hl
  exact .ref _ l b o xs him fun i hi => ih i hi (hl _ (List.getElem_mem hi))
 | listNil => exact .listNil _
 | listE _ c a cap hc => exact .listE _ c a cap hc
 | sl _ kd id' off m cap b hc h =>
  simp only [lo,decide_eq_true_eq] at hl
  exact .sl _ kd id' off m cap b hc (by simp only [Gh.cut]; rw [if_pos (by omega)]; exact h)
 | list _ c l b o sz m cap xs hm hcap hc hsz him _ ih =>
  simp only [lo,los_eq,Bool.and_eq_true,List.all_eq_true] at hl
  exact .list _ c l b o sz m cap xs hm hcap (capOK_lo hc hl.1 hn) hsz him fun i hi j hj => ih i hi j hj (lo_cells (hl.2 _ (List.getElem_mem hi)) _ (List.getElem_mem hj))
 | agg _ l a hs h1 _ ih =>
  simp only [lo,los_eq,List.all_eq_true] at hl
  exact .agg _ l a hs h1 fun i hi hi' => ih i hi hi' (hl _ (List.getElem_mem hi))
 | tup _ l a hs _ ih =>
  simp only [lo,los_eq,List.all_eq_true] at hl
  exact .tup _ l a hs fun i hi hi' => ih i hi hi' (hl _ (List.getElem_mem hi))
 | fn _ f f' l m a b hs ht hy _ _ ih1 ih2 =>
  simp only [lo,los_eq,Bool.and_eq_true,List.all_eq_true] at hl
  refine .fn _ f f' l m a b hs ht ?_ (fun i hi hi' => ih1 i hi hi' (hl.1.2 _ (List.getElem_mem hi))) (fun i hi hi' => ih2 i hi hi' (hl.2 _ (List.getElem_mem hi)))
  cases f <;> cases f' <;> first | exact hy | exact hy.elim | skip
  rename_i i b
  have := hl.1.1
  simp only [Fn.below,decide_eq_true_eq] at this
  simp only [FnR,Gh.cut] at hy ⊢
  rw [if_pos (by omega)]; exact hy
 | nilfn => exact .nilfn _
 | iface _ t v x _ ih => exact .iface _ t v x (ih hl)
 | nilif => exact .nilif _
 | map _ id' b h =>
  simp only [lo,decide_eq_true_eq] at hl
  exact .map _ id' b (by simp only [Gh.cut]; rw [if_pos (by omega)]; exact h)
 | nilmap => exact .nilmap _
theorem VR.cut_old {g : Gh} {lb : LB} {v : AV} {x : Value} (h : VR g lb v x) {g0 : Gh} {n : Nat} (hd : ∀ id b,g0.mb id = some b -> id < n) (hr : ∀ t m y,g0.rows t m = some y -> t < n) :
  ∀ {lb0 : LB} {x0 : Value},VR g0 lb0 v x0 -> VR (g.cut n) lb v x := by
 induction h with
 | undef => intro _ _ _; exact .undef _
 | junk _ x h => intro _ _ _; exact .junk _ x h
 | int _ k n => intro _ _ _; exact .int _ k n
 | bool _ b => intro _ _ _; exact .bool _ b
 | str _ b s h => intro _ _ _; exact .str _ b s h
 | nilp => intro _ _ _; exact .nilp _
 | lptr _ d v off b h => intro _ _ _; exact .lptr _ d v off b h
 | gptr _ id' off b h =>
  intro _ _ h0
  cases h0 with
  | gptr _ _ _ b0 hb0 => exact .gptr _ id' off b (by simp only [Gh.cut]; rw [if_pos (hd _ _ hb0)]; exact h)
 | ref _ l b o xs him _ ih =>
  intro _ _ h0
  cases h0 with
  | ref _ _ b0 o0 xs0 him0 hv0 => exact .ref _ l b o xs him fun i hi => ih i hi (hv0 i hi)
 | listNil => intro _ _ _; exact .listNil _
 | listE _ c a cap hc => intro _ _ _; exact .listE _ c a cap hc
 | sl _ kd id' off m cap b hc h =>
  intro _ _ h0
  cases h0 with
  | sl _ _ _ _ _ _ b0 hc0 hb0 => exact .sl _ kd id' off m cap b hc (by simp only [Gh.cut]; rw [if_pos (hd _ _ hb0)]; exact h)
 | list _ c l b o sz m cap xs hm hcap hc hsz him _ ih =>
  intro _ _ h0
  cases h0 with
  | listNil => exact hc.elim
  | listE _ c0 a0 cap0 hc0 =>
   refine .list _ c [] b o sz m cap xs hm hcap ?_ hsz him fun i hi => absurd hi (Nat.not_lt_zero _)
   rcases hc0 with rfl | ⟨rfl,_⟩
   ·trivial
   ·exact hc
  | list _ _ _ b0 o0 sz0 m0 cap0 xs0 hm0 hcap0 hc0 hsz0 him0 hv0 =>
   refine .list _ c l b o sz m cap xs hm hcap ?_ hsz him fun i hi j hj => ih i hi j hj (hv0 i hi j hj)
   cases c with
   | any => trivial
   | nil => exact hc
   | full => exact hc
   | own t => exact ⟨hc.1,by simp only [Gh.cut]; rw [if_pos (hr _ _ _ hc0.2)]; exact hc.2⟩
 | agg _ l a hs h1 _ ih =>
  intro _ _ h0
  cases h0 with
  | agg _ _ a0 hs0 h10 hv0 => exact .agg _ l a hs h1 fun i hi hi' => ih i hi hi' (hv0 i hi (by omega))
 | tup _ l a hs _ ih =>
  intro _ _ h0
  cases h0 with
  | tup _ _ a0 hs0 hv0 => exact .tup _ l a hs fun i hi hi' => ih i hi hi' (hv0 i hi (by omega))
 | fn _ f f' l m a b hs ht hy _ _ ih1 ih2 =>
  intro _ _ h0
  cases h0 with
  | fn _ _ f0 _ _ a0 b0 hs0 ht0 hy0 hv0 hw0 =>
   refine .fn _ f f' l m a b hs ht ?_ (fun i hi hi' => ih1 i hi hi' (hv0 i hi (by omega))) (fun i hi hi' => ih2 i hi hi' (hw0 i hi (by omega)))
   cases f <;> cases f' <;> first | exact hy | exact hy.elim | skip
   cases f0 <;> first | exact hy0.elim | skip
   simp only [FnR,Gh.cut] at hy hy0 ⊢
   rw [if_pos (hd _ _ hy0)]; exact hy
 | nilfn => intro _ _ _; exact .nilfn _
 | iface _ t v x _ ih =>
  intro _ _ h0
  cases h0 with
  | iface _ _ _ x0 h0 => exact .iface _ t v x (ih h0)
 | nilif => intro _ _ _; exact .nilif _
 | map _ id' b h =>
  intro _ _ h0
  cases h0 with
  | map _ _ b0 hb0 => exact .map _ id' b (by simp only [Gh.cut]; rw [if_pos (hd _ _ hb0)]; exact h)
 | nilmap => intro _ _ _; exact .nilmap _
def scrubK (n : Nat) : Nat -> Blk -> Blk
 | 0,b => b
 | k + 1,b => scrubK n k (b.scrub n)
theorem scrubs_at (n : Nat) : ∀ (t : List Nat) (bs : List Blk) (id : Nat) (blk : Blk),(scrubs n t bs)[id]? = some blk -> ∃ b0 k,bs[id]? = some b0 /\ blk = scrubK n k b0 /\ (k = 0 -> id ∉ t) := by
 intro t
 induction t with
 | nil => intro bs id blk h; exact ⟨blk,0,h,rfl,fun _ h => by cases h⟩
 | cons i t ih =>
  intro bs id blk h
  simp only [scrubs] at h
  obtain ⟨b0,k,h1,h2,h3⟩ := ih _ id blk h
  split at h1
  ·rename_i b hb
   rw [List.getElem?_set] at h1
   split at h1
   ·rename_i hi; subst hi
    split at h1
    ·cases h1
     exact ⟨b,k + 1,hb,h2,fun h => by omega⟩
    ·cases h1
   ·rename_i hi
    exact ⟨b0,k,h1,h2,fun hk hm => by rcases List.mem_cons.1 hm with rfl | hm; exact hi rfl; exact h3 hk hm⟩
  ·rename_i hb
   refine ⟨b0,k,h1,h2,fun hk hm => ?_⟩
   rcases List.mem_cons.1 hm with rfl | hm
   ·rw [hb] at h1; cases h1
   ·exact h3 hk hm
theorem scrubK_other {n k : Nat} {b : Blk} (h : ∀ l,b ≠ .cells l) : scrubK n k b = b := by
 induction k with
 | zero => rfl
 | succ k ih =>
  have : b.scrub n = b := by cases b <;> first | rfl | exact absurd rfl (h _)
  rw [scrubK,this,ih]
theorem scrubK_cells {g : Gh} {n : Nat} : ∀ (k : Nat) (l : List AV),∃ l',scrubK n (k + 1) (.cells l) = .cells l' /\ l'.length = l.length ∧
  ∀ i (h : i < l.length) (h' : i < l'.length) x,VR g noLB l[i] x -> VR (g.cut n) noLB l'[i] x := by
 intro k
 induction k generalizing g with
 | zero =>
  intro l
  refine ⟨_,rfl,by simp,fun i h h' x hx => ?_⟩
  simp only [List.getElem_map]
  exact hx.exp n true
 | succ k ih =>
  intro l
  obtain ⟨l',h1,h2,h3⟩ := ih (g := g.cut n) (l.map (exp n true))
  refine ⟨l',h1,by simpa using h2,fun i h h' x hx => ?_⟩
  have := h3 i (by simpa using h) h' x (by simp only [List.getElem_map]; exact hx.exp n true)
  rwa [Gh.cut_cut] at this
def ownCut (n : Nat) (own : OW) : OW := fun b => match own b with
 | some (.m id) => if id < n then some (.m id) else none
 | _ => none
theorem ownCut_pos {n : Nat} {own : OW} {b id : Nat} (h : own b = some (.m id)) (hid : id < n) : ownCut n own b = some (.m id) := by simp [ownCut,h,hid]
theorem ownCut_some {n : Nat} {own : OW} {b : Nat} {o : Own} (h : ownCut n own b = some o) : own b = some o /\ ∃ id,o = .m id := by
 unfold ownCut at h
 split at h
 ·rename_i id he
  split at h
  ·cases h; exact ⟨he,id,rfl⟩
  ·cases h
 ·cases h
theorem ownCut_none {n : Nat} {own : OW} {b : Nat} (h : own b = none) : ownCut n own b = none := by simp [ownCut,h]
theorem back_spec {g0 : Gh} {own0 : OW} {LC : LCR} {m0 : Mem} {w0 : World} (h0 : MemR g0 own0 LC m0 w0) {g : Gh} {own : OW} {m : Mem} {w : World} (h : MemR g own LC m w) {extra : List Blk}
  (hk : KM { blks := m0.blks ++ extra,touched := [] } m) : MemR (g.cut m0.blks.length) (ownCut m0.blks.length own) LC (m0.back m) w := by
 have hlen : m0.blks.length <= m.blks.length := by have := hk.len; simp at this; omega
 have hbl : (m0.back m).blks.length = m0.blks.length := back_len hlen
 refine ⟨fun id b hb => ?_,fun t k x hx => ?_,fun id blk hb => ?_,h.im⟩
 ·rw [hbl]; simp only [Gh.cut] at hb; split at hb <;> first | assumption | cases hb
 ·rw [hbl]; simp only [Gh.cut] at hx; split at hx <;> first | assumption | cases hx
 ·have hid : id < m0.blks.length := by
   have := (List.getElem?_eq_some_iff.1 hb).1
   omega
  simp only [Mem.back] at hb
  obtain ⟨b0,k,h1,h2,h3⟩ := scrubs_at _ _ _ _ _ hb
  rw [List.getElem?_take_of_lt hid] at h1
  have hB := h.blk id b0 h1
  have hmb : ∀ b,g.mb id = some b -> (g.cut m0.blks.length).mb id = some b := fun b hb => by simp only [Gh.cut]; rw [if_pos hid]; exact hb
  cases b0 with
  | cells l =>
   obtain ⟨b,k1,k2,k3,a,e,k4,k5,k6,k7⟩ := hB
   cases k with
   | succ k =>
    obtain ⟨l',q1,q2,q3⟩ := scrubK_cells (g := g) (n := m0.blks.length) k l
    rw [h2,q1]
    exact ⟨b,hmb b k1,ownCut_pos k2 hid,k3,a,e,k4,by omega,fun i hi hi' => q3 i (by omega) hi _ (k6 i (by omega) hi'),k7⟩
   | zero =>
    rw [h2]
    refine ⟨b,hmb b k1,ownCut_pos k2 hid,k3,a,e,k4,k5,fun i hi hi' => ?_,k7⟩
    have hv := k6 i hi hi'
    rcases hk.cells id l h1 (by simp; omega) (h3 rfl) l[i] (List.getElem_mem hi) with ⟨lo',q1,q2⟩ | q1
    ·rw [List.getElem?_append_left hid] at q1
     obtain ⟨b',r1,r2,r3,a',e',r4,r5,r6,r7⟩ := h0.blk id _ q1
     obtain ⟨j,hj,hje⟩ := List.mem_iff_getElem.1 q2
     have hx := r6 j hj (by omega)
     rw [hje] at hx
     exact hv.cut_old h0.dom h0.rdom hx
    ·exact hv.cut_lo hid q1
  | iter s pos => exact hB.elim
  | dead =>
   rw [h2,scrubK_other (by simp)]
   trivial
  | bld T e s =>
   rw [h2,scrubK_other (by simp)]
   obtain ⟨b,k1,k2,k3,p,v,k4,k5,k6,k7⟩ := hB
   refine ⟨b,hmb b k1,ownCut_pos k2 hid,k3,p,v,k4,k5,k6,?_⟩
   rcases k7 with k7 | ⟨r,cap,cur,q1,q2,q3⟩
   ·exact .inl k7
   ·exact .inr ⟨r,cap,cur,q1,ownCut_pos q2 hid,q3⟩
  | map es =>
   rw [h2,scrubK_other (by simp)]
   obtain ⟨b,k1,k2,k3,a,c,k4,k5,k6,k7⟩ := hB
   refine ⟨b,hmb b k1,ownCut_pos k2 hid,k3,a,c,k4,k5,fun i hi hi' => ?_,k7⟩
   obtain ⟨q1,q2⟩ := k6 i hi hi'
   obtain ⟨p1,p2⟩ := k7 _ (List.getElem_mem hi)
   have r1 := VR.exp (lb' := noLB) m0.blks.length true q1
   have r2 := VR.exp (lb' := noLB) m0.blks.length true q2
   rw [exp_plain _ _ _ p1] at r1
   rw [exp_plain _ _ _ p2] at r2
   exact ⟨r1,r2⟩
  | front c sz e =>
   rw [h2,scrubK_other (by simp)]
   obtain ⟨k0,b,cap,k1,k2,k3,k4,k5,k6,k7⟩ := hB
   refine ⟨k0,b,cap,by simp only [Gh.cut]; rw [if_pos hid]; exact k1,k2,ownCut_pos k3 hid,k4,k5,fun m' x hx => k6 m' x ?_,by simp only [Gh.cut]; rw [if_pos hid]; exact k7⟩
   simp only [Gh.cut] at hx; rw [if_pos hid] at hx; exact hx
  | loop env ps asg body st =>
   rw [h2,scrubK_other (by simp)]
   obtain ⟨b,k1,k2,k3,L,N,k4,k5,k6,k7,k8,k9,k10,k11,k12⟩ := hB
   exact ⟨b,hmb b k1,ownCut_pos k2 hid,k3,L,N,k4,fun t => by
    obtain ⟨g0,x0,q1,q2,q3⟩ := k12 t
    exact (k5 t).cut_old (fun i b hb => Nat.lt_trans (q1 i b hb) hid) (fun i m y hy => Nat.lt_trans (q2 i m y hy) hid) q3,k6,k7,k8,k9,k10,k11,k12⟩
end Go.Abs
