/- Regions, drawn and not, as the machine runs them. -/
import Derived.Test.YtiigojkfojnedaaGreatDoorXV
set_option linter.unusedVariables false
set_option linter.unusedSimpArgs false
namespace Go.Abs

section
variable {F : Fence} {n : Nat} {P : Program} {esc : Nat → Bool} {N : Nat} {gl : Nat → AV} {base : Nat} {LC : LCR} {ent : Nat} {callv : CallV}
variable {ops : Array Oper} {Q : Exit → Act → World → Prop}

theorem SR.congr {g : Gh} {lb : LB} {own : OW} {s s' : St} {a : Act} {w : World} (h : SR gl base N LC ent g lb own s a w) (hr : ∀ r, agree r s s') : SR gl base N LC ent g lb own s' a w := {
  env t := by have := hr (.env t); simp only [agree] at this; rw [← this]; exact h.env t
  gl := h.gl
  size := h.size
  defers := h.defers
  mem := by have := hr .mem; simp only [agree] at this; rw [← this]; exact h.mem
  loc := by
    have : lget s.loc = lget s'.loc := funext fun d => hr (.loc d)
    rw [← this]; exact h.loc
  own := h.own }


theorem SR.drawn {g : Gh} {lb : LB} {own : OW} {s : St} {a : Act} {w : World} (h : SR gl base N LC ent g lb own s a w) (d : Nat) :
    SR gl base N LC ent g lb own s a { w with drawn := d } ∧ Steps' g own w g own { w with drawn := d } := by
  refine ⟨⟨h.env, h.gl, h.size, h.defers.keep (g := g) (g' := g) ⟨g.sub_refl, Nat.le_refl _, rfl, rfl, rfl, fun _ _ _ => rfl, fun _ _ h => h, fun _ _ _ _ => rfl⟩, ?_, ?_, ?_⟩, g.sub_refl, Nat.le_refl _, rfl, rfl, rfl, fun _ _ _ => rfl, fun _ _ h => h, fun _ _ _ _ => rfl⟩
  · exact ⟨h.mem.dom, h.mem.rdom, fun id blk hb => (h.mem.blk id blk hb).keep g.sub_refl (fun _ _ => ⟨rfl, rfl, fun _ => rfl⟩) (fun _ h => h) (fun h => h), fun b o x hx => (cell?_of_heap (w := w) rfl).trans (h.mem.im b o x hx)⟩
  · exact ⟨fun d v l hd => by
        obtain ⟨b, h1, h2⟩ := h.loc.cells d v l hd
        exact ⟨b, h1, h2.keep g.sub_refl (fun _ _ _ h => h) rfl rfl fun _ => rfl⟩, h.loc.iter, h.loc.ver⟩
  · exact ⟨h.own.ge, h.own.base⟩

/-! ### the text's order -/
theorem ops_sound (hF : ∀ f, F.fn f) (hd : F.depth = none) (hcall : CallOK F P base LC gl callv) {l : List AOp} (hc : cOps P esc N ops ops.toList = some l) :
    ∀ (m k : Nat) (g : Gh) (lb : LB) (own : OW) (s s' : St) (a : Act) (w : World), k + m = ops.size → SR gl base N LC ent g lb own s a w → aops gl callv (l.drop k) s = some s' →
      (∀ g' lb' own' a' w', Steps' g own w g' own' w' → SR gl base N LC ent g' lb' own' s' a' w' → Q .normal a' w') → wpOpsIn F n P ops Q ((List.range m).map (· + k)) a w := by
  intro m
  induction m with
  | zero =>
    intro k g lb own s s' a w hk hs hx hQ
    have hlen := cOps_len hc
    rw [List.drop_of_length_le (by simp at hlen; omega)] at hx
    cases hx
    simpa [wpOpsIn] using hQ _ _ _ _ _ (Steps'.refl _ _ _) hs
  | succ m ih =>
    intro k g lb own s s' a w hk hs hx hQ
    have hk' : k < ops.size := by omega
    obtain ⟨o', ho', hco⟩ := cOps_at hc (i := k) (o := ops[k]) (by simp [hk'])
    have hlt := (List.getElem?_eq_some_iff.1 ho').1
    have ho'' := (List.getElem?_eq_some_iff.1 ho').2
    rw [List.drop_eq_getElem_cons hlt, ho''] at hx
    simp only [aops] at hx
    split at hx
    · rename_i s1 hst
      have hr : (List.range (m + 1)).map (· + k) = k :: (List.range m).map (· + (k + 1)) := by
        rw [List.range_succ_eq_map]
        simp [List.map_map, Function.comp_def, Nat.add_assoc, Nat.add_comm 1 k]
      rw [hr, wpOpsIn_cons]
      refine step_sound hF hd hcall (Array.getElem?_eq_getElem hk') hco hs hst fun g' lb' own' a' w' h1 h2 => ?_
      exact ih (k + 1) g' lb' own' s1 s' a' w' (by omega) h2 hx fun g2 lb2 own2 a2 w2 h3 h4 => hQ _ _ _ _ _ (h1.trans h3) h4
    · cases hx

/-! ### any order -/
def lst (listed : Array Bool) (j : Nat) : Prop := listed.getD j false = true

theorem lst_set {listed : Array Bool} {i : Nat} (hi : i < listed.size) (j : Nat) : lst (listed.setIfInBounds i true) j ↔ lst listed j ∨ j = i := by
  unfold lst
  by_cases h : i = j
  · subst h; simp [hi]
  · rw [getD_set_ne false h]
    exact ⟨.inl, fun h' => h'.resolve_right fun e => h e.symm⟩

theorem not_lst {listed : Array Bool} {i : Nat} (hi : i < listed.size) : ¬lst listed i ↔ listed.getD i true = false := by
  unfold lst
  simp [hi]

theorem closed_preds (he : edgesGo ops.toList 0 = true) {listed : Array Bool} (hcl : ∀ i o, ops[i]? = some o → lst listed i → ∀ e ∈ o.after, Region.binds .any e = true → lst listed e.on)
    (hsz : listed.size = ops.size) : ∀ j i, i ∈ (preds ops).getD j [] → lst listed j → lst listed i := by
  intro j
  induction j using Nat.strongRecOn with
  | _ j ih =>
    intro i hi hj
    have hjs : j < ops.size := by
      rcases Nat.lt_or_ge j ops.size with h | h
      · exact h
      · unfold lst at hj; simp [Array.getElem?_eq_none (hsz ▸ h)] at hj
    obtain ⟨e, h1, h2, h3, h4⟩ := preds_at he (Array.getElem?_eq_getElem hjs) hi
    have := hcl j _ (Array.getElem?_eq_getElem hjs) hj e h1 h2
    rcases h4 with rfl | h4
    · exact this
    · exact ih e.on h3 i h4 this

theorem preds_lt (he : edgesGo ops.toList 0 = true) : ∀ j i, i ∈ (preds ops).getD j [] → i < j := by
  intro j
  induction j using Nat.strongRecOn with
  | _ j ih =>
    intro i hi
    rcases Nat.lt_or_ge j ops.size with hjs | hjs
    · obtain ⟨e, h1, h2, h3, h4⟩ := preds_at he (Array.getElem?_eq_getElem hjs) hi
      rcases h4 with rfl | h4
      · exact h3
      · have := ih e.on h3 i h4; omega
    · obtain ⟨rest, h1, h2⟩ := predsGo_spec ops.toList []
      have hl : (preds ops).length = ops.size := by simp [preds, h1, h2]
      rw [List.getD_eq_getElem?_getD, List.getElem?_eq_none (by omega)] at hi
      simp at hi

theorem isSt_of {l : List AOp} {j : Nat} {o : AOp} (h : l[j]? = some o) (hc : o.cls = .eff true) : isSt l j = true := by
  simp only [isSt, h]
  obtain ⟨dst, op, gd⟩ := o
  cases op with
  | alloc g z => cases g <;> cases dst <;> simp [AOp.cls] at hc
  | box g n x => cases g <;> cases dst <;> simp [AOp.cls] at hc
  | rng x => cases dst <;> simp [AOp.cls] at hc
  | st => rfl
  | _ => simp [AOp.cls] at hc

theorem orderly_of {l : List AOp} {s : St} {tr : List St} (he : edgesGo ops.toList 0 = true) (hok : drawOK l (preds ops) = true) (htr : ascan gl callv l s = some tr)
    (hcf : (pairs l (preds ops) isLoad isCall).all (fun p => chkLoad gl l tr p.1 p.2) = true) (haf : (pairs l (preds ops) isNew isLoad).all (fun p => chkNew gl l tr p.1 p.2) = true) :
    Trace gl callv l (fun i => tr.getD i s) ∧ Orderly gl l (fun i => tr.getD i s) (fun i j => i ∈ (preds ops).getD j []) := by
  obtain ⟨h1, h2, h3⟩ := ascan_at htr
  have hT : Trace gl callv l (fun i => tr.getD i s) := by
    refine ⟨fun i o ho => ?_⟩
    obtain ⟨a, b, k1, k2, k3⟩ := h3 i o ho
    simpa [List.getD_eq_getElem?_getD, k1, k2] using k3
  have hcmp : ∀ i j, ¬i ∈ (preds ops).getD j [] → ¬j ∈ (preds ops).getD i [] → cmp (preds ops) i j = false := by
    intro i j h h'
    simp only [cmp, Bool.or_eq_false_iff]
    exact ⟨by simpa using h, by simpa using h'⟩
  refine ⟨hT, ⟨fun i j h => preds_lt he j i h, ?_, ?_, ?_, ?_⟩⟩
  · intro i j oi oj hi hj hne n1 n2
    have hi' := (List.getElem?_eq_some_iff.1 hi).1
    have hj' := (List.getElem?_eq_some_iff.1 hj).1
    simp only [drawOK, List.all_eq_true, List.mem_range] at hok
    have := hok j hj' i hi'
    simpa [hne, hcmp i j n1 n2, hi, hj] using this
  · intro i j oi oj ag m a hi hj hop hcl n1 n2 hw id off hp
    have hmem := mem_pairs (p := isLoad) (q := isCall) hi hj (by rw [cls_ld hop]; rfl) (by rcases hcl with hcl | hcl <;> (rw [hcl]; rfl)) (hcmp i j n1 n2)
    have hchk := List.all_eq_true.1 hcf _ hmem
    obtain ⟨si, _, k1, _, _⟩ := h3 i oi hi
    obtain ⟨sj, sj', k3, k4, _⟩ := h3 j oj hj
    simp only [List.getD_eq_getElem?_getD, k1, k3, k4, Option.getD_some] at hw hp ⊢
    simp only [chkLoad, hi, k1, k3, k4] at hchk
    split at hchk
    · rename_i hwf; exact absurd hwf hw
    · rename_i ag' m' a' hop' _
      rw [hop] at hop'; cases hop'
      rw [hp] at hchk
      simp only [Bool.and_eq_true] at hchk
      exact ⟨eqRd_eq hchk.1, eqRd_eq hchk.2⟩
    · cases hchk
  · intro i j oi oj ag m a hi hj hop hcl n1 n2 hw d v off hp
    have hmem := mem_pairs (p := isLoad) (q := isCall) hi hj (by rw [cls_ld hop]; rfl) (by rw [hcl]; rfl) (hcmp i j n1 n2)
    have hchk := List.all_eq_true.1 hcf _ hmem
    obtain ⟨si, _, k1, _, _⟩ := h3 i oi hi
    obtain ⟨sj, sj', k3, k4, _⟩ := h3 j oj hj
    simp only [List.getD_eq_getElem?_getD, k1, k3, k4, Option.getD_some] at hw hp ⊢
    simp only [chkLoad, hi, k1, k3, k4] at hchk
    split at hchk
    · rename_i hwf; exact absurd hwf hw
    · rename_i ag' m' a' hop' _
      rw [hop] at hop'; cases hop'
      rw [hp] at hchk
      simp only [isSt_of hj hcl, Bool.not_true, Bool.false_or, Bool.and_eq_true] at hchk
      exact ⟨eqRd_eq hchk.1, eqRd_eq hchk.2⟩
    · cases hchk
  · intro i j oi oj ag m a d hi hj hop hcl n1 n2 v off hp
    have hmem := mem_pairs (p := isNew) (q := isLoad) hi hj (by rw [hcl]; rfl) (by rw [cls_ld hop]; rfl) (hcmp i j n1 n2)
    have hchk := List.all_eq_true.1 haf _ hmem
    obtain ⟨sj, sj', k3, k4, _⟩ := h3 j oj hj
    simp only [List.getD_eq_getElem?_getD, k3, Option.getD_some] at hp
    simp only [chkNew, hi, hj, k3, hop, hp, new_dst hcl] at hchk
    simp at hchk

theorem any_sound (hF : ∀ f, F.fn f) (hd : F.depth = none) (hcall : CallOK F P base LC gl callv) {l : List AOp} (hc : cOps P esc N ops ops.toList = some l) {T : Nat → St}
    (he : edgesGo ops.toList 0 = true) (hT : Trace gl callv l T) (hO : Orderly gl l T (fun i j => i ∈ (preds ops).getD j [])) :
    ∀ (fuel : Nat) (listed : Array Bool) (g : Gh) (lb : LB) (own : OW) (s : St) (a : Act) (w : World), listed.size = ops.size → listed.countP (fun b => !b) ≤ fuel →
      (∀ i o, ops[i]? = some o → lst listed i → ∀ e ∈ o.after, Region.binds .any e = true → lst listed e.on) → Inv l T (lst listed) s → SR gl base N LC ent g lb own s a w →
      (∀ g' lb' own' a' w', Steps' g own w g' own' w' → SR gl base N LC ent g' lb' own' (T l.length) a' w' → Q .normal a' w') → wpAnyIn F n P .any ops Q fuel listed a w := by
  have hlen := cOps_len hc
  simp only [Array.length_toList] at hlen
  have hend : ∀ (listed : Array Bool) (g : Gh) (lb : LB) (own : OW) (s : St) (a : Act) (w : World), listed.size = ops.size → Inv l T (lst listed) s → SR gl base N LC ent g lb own s a w →
      (∀ g' lb' own' a' w', Steps' g own w g' own' w' → SR gl base N LC ent g' lb' own' (T l.length) a' w' → Q .normal a' w') → Region.ready .any ops listed = [] → Q .normal a w := by
    intro listed g lb own s a w hsz hI hs hQ hr
    have hall : ∀ i, i < ops.size → lst listed i := by
      intro i
      induction i using Nat.strongRecOn with
      | _ i ih =>
        intro hi
        refine Classical.byContradiction fun hn => ?_
        have : i ∈ Region.ready .any ops listed := by
          refine mem_ready.2 ⟨(not_lst (by omega)).1 hn, _, Array.getElem?_eq_getElem hi, fun e hm hb => ?_⟩
          have := edges_at he (i := i) (o := ops[i]) (by simp [hi]) e hm hb
          exact ih e.on (by omega) (by omega)
        rw [hr] at this; cases this
    refine hQ _ _ _ _ _ (Steps'.refl _ _ _) (hs.congr fun r => hI r l.length (Nat.le_refl _) (fun j o hj _ _ => hall j (by omega)) fun j o hj ho _ _ => ?_)
    have := (List.getElem?_eq_some_iff.1 ho).1
    omega
  intro fuel
  induction fuel with
  | zero =>
    intro listed g lb own s a w hsz hcnt hcl hI hs hQ
    have hr : Region.ready .any ops listed = [] := by
      refine List.eq_nil_iff_forall_not_mem.2 fun i hi => ?_
      obtain ⟨h1, o, h2, _⟩ := mem_ready.1 hi
      have hlt : i < listed.size := by rw [hsz]; exact (Array.getElem?_eq_some_iff.1 h2).1
      have h0 : listed.countP (fun b => !b) = 0 := by omega
      rw [Array.countP_eq_zero] at h0
      have := h0 listed[i] (Array.getElem_mem hlt)
      simp [hlt] at h1
      simp [h1] at this
    exact ⟨hr, hend listed g lb own s a w hsz hI hs hQ hr⟩
  | succ fuel ih =>
    intro listed g lb own s a w hsz hcnt hcl hI hs hQ
    refine ⟨hend listed g lb own s a w hsz hI hs hQ, fun i hi => ?_⟩
    obtain ⟨h1, o, h2, h3⟩ := mem_ready.1 hi
    have hlt : i < listed.size := by rw [hsz]; exact (Array.getElem?_eq_some_iff.1 h2).1
    have hun : ¬lst listed i := (not_lst hlt).2 h1
    obtain ⟨o', ho', hco⟩ := cOps_at hc (i := i) (o := o) (by simpa using h2)
    have hclp := closed_preds he hcl hsz
    have hrdy : ∀ j, j ∈ (preds ops).getD i [] → lst listed j := by
      intro j hj
      obtain ⟨e, k1, k2, k3, k4⟩ := preds_at he h2 hj
      have := h3 e k1 k2
      rcases k4 with rfl | k4
      · exact this
      · exact hclp _ _ k4 this
    obtain ⟨s1, k1, k2⟩ := orderly_step hT hO hI (fun i j h h' => hclp j i h h') ho' hun hrdy
    refine step_sound hF hd hcall h2 hco hs k1 fun g' lb' own' a' w' h4 h5 => ?_
    refine ih _ g' lb' own' s1 a' w' (by simpa using hsz) ?_ ?_ ?_ h5 fun g2 lb2 own2 a2 w2 h6 h7 => hQ _ _ _ _ _ (h4.trans h6) h7
    · have hx : listed[i] = false := by simpa [hlt] using h1
      rw [Array.setIfInBounds_def, dif_pos hlt, Array.countP_set]
      simp [hx]
      omega
    · intro j oj hj hl e hm hb
      rw [lst_set hlt] at hl ⊢
      rcases hl with hl | rfl
      · exact .inl (hcl j oj hj hl e hm hb)
      · rw [h2] at hj; cases hj
        exact .inl (h3 e hm hb)
    · have : lst (listed.setIfInBounds i true) = fun j => lst listed j ∨ j = i := funext fun j => propext (lst_set hlt j)
      rw [this]; exact k2

end

/-! ### code -/
section
variable (P : Program) (esc : Nat → Bool) (N : Nat)

def cRegion (ops : Array Oper) (draw : Bool) : AC := match cOps P esc N ops ops.toList with
  | some l => if draw then (if P.follows .mixedOrders && edgesGo ops.toList 0 && drawOK l (preds ops) then .draw l (pairs l (preds ops) isLoad isCall) (pairs l (preds ops) isNew isLoad) else .bad) else .ops l
  | none => .bad

def cCode : Bool → Code → AC
  | _, .skip => .skip
  | _, .region _ ops draw => cRegion P esc N ops draw
  | rf, .seq a b => .seq (cCode rf a) (cCode rf b)
  | rf, .cond x a b => match cOpd x with
    | some x => .cond x (cCode rf a) (cCode rf b)
    | none => .bad
  | rf, .block id a => .block id (cCode rf a)
  | rf, .loop a => .loop (cCode rf a)
  | _, .exit id => .exit id
  | _, .ret => .ret
  | _, .label _ => .skip
  | rf, .scope a => cCode rf a
  | rf, .rangeFunc f ps asg body => match cOpd f with
    | some f => if rf && ps.toList.all (fun p => decide (p < N)) then .rfun f ps.toList (cCode false asg) (cCode false body) else .bad
    | none => .bad
  | _, _ => .bad
end

def Ex.exit' : Ex → Exit
  | .normal => .normal
  | .exit i => .exit i
  | .ret => .ret

section
variable {F : Fence} {n : Nat} {P : Program} {esc : Nat → Bool} {N : Nat} {gl : Nat → AV} {base : Nat} {LC : LCR} {ent : Nat} {callv : CallV}

theorem region_sound (hF : ∀ f, F.fn f) (hd : F.depth = none) (hcall : CallOK F P base LC gl callv) {id : Nat} {ops : Array Oper} {draw : Bool} {lp : LoopV} {g : Gh} {lb : LB} {own : OW} {s s' : St} {ex : Ex} {a : Act} {w : World}
    (hs : SR gl base N LC ent g lb own s a w) (hx : exec gl callv lp (cRegion P esc N ops draw) s = some (ex, s')) {Q : Exit → Act → World → Prop}
    (hQ : ∀ g' lb' own' a' w', Steps' g own w g' own' w' → SR gl base N LC ent g' lb' own' s' a' w' → Q ex.exit' a' w') : (Code.region id ops draw).wpIn F n P Q a w := by
  unfold cRegion at hx
  split at hx
  · rename_i l hc
    split at hx
    · rename_i hdr
      split at hx
      · rename_i hok
        simp only [Bool.and_eq_true] at hok
        simp only [exec, Option.map_eq_some_iff, Prod.mk.injEq] at hx
        obtain ⟨s1, hx, rfl, rfl⟩ := hx
        subst hdr
        have hlast := adraw_aops hx
        unfold adraw at hx
        split at hx
        · rename_i tr htr
          split at hx
          · rename_i hcc
            simp only [Bool.and_eq_true] at hcc
            obtain ⟨hT, hO⟩ := orderly_of hok.1.2 hok.2 htr hcc.1 hcc.2
            obtain ⟨k1, k2, k3⟩ := ascan_at htr
            have hT0 : tr.getD 0 s = s := by simp [List.getD_eq_getElem?_getD, k2]
            have hTn : tr.getD l.length s = s1 := by
              rw [List.getLast?_eq_getElem?, k1] at hx
              simp at hx
              simp [List.getD_eq_getElem?_getD, hx]
            obtain ⟨d1, d2⟩ := hs.drawn (w.drawn + 1)
            refine wpIn_region_any hok.1.1 (any_sound hF hd hcall hc hok.1.2 hT hO ops.size _ g lb own s a _ (by simp) ?_ ?_ ?_ d1 ?_)
            · exact Nat.le_trans Array.countP_le_size (by simp)
            · intro i o ho hl
              unfold lst at hl
              rcases Nat.lt_or_ge i ops.size with h | h <;> simp [h] at hl
            · intro r k hk h1 h2
              have : ∀ j, ¬lst (Array.replicate ops.size false) j := fun j hl => by
                unfold lst at hl
                rcases Nat.lt_or_ge j ops.size with h | h <;> simp [h] at hl
              have hsame := hT.same (r := r) (i := 0) (Nat.zero_le k) hk fun j o _ hj ho hw => this j (h1 j o hj ho hw)
              simp only [hT0] at hsame
              exact agree_symm hsame
            · intro g' lb' own' a' w' h1 h2
              rw [hTn] at h2
              exact hQ _ _ _ _ _ (d2.trans h1) h2
          · cases hx
        · cases hx
      · cases hx
    · rename_i hdr
      obtain rfl : draw = false := by simpa using hdr
      simp only [exec, Option.map_eq_some_iff, Prod.mk.injEq] at hx
      obtain ⟨s1, hx, rfl, rfl⟩ := hx
      refine wpIn_region ?_
      have := ops_sound (n := n) (Q := Q) hF hd hcall hc ops.size 0 g lb own s s1 a w (by simp) hs (by simpa using hx) hQ
      simpa using this
  · cases hx

end
end Go.Abs
