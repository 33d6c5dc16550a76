/- Regions that draw their order: any order comes to the text's. -/
import Derived.Test.YtiigojkfojnedaaGreatDoorXU
set_option linter.unusedVariables false
set_option linter.unusedSimpArgs false
namespace Go.Abs

def ins (x : Nat) (l : List Nat) : List Nat := if l.contains x then l else x :: l
theorem mem_ins {x y : Nat} {l : List Nat} (h : y ∈ ins x l) : y = x ∨ y ∈ l := by
  unfold ins at h
  split at h
  · exact .inr h
  · simpa using h
def insAll (m l : List Nat) : List Nat := m.foldr ins l
theorem mem_insAll {y : Nat} {m l : List Nat} (h : y ∈ insAll m l) : y ∈ m ∨ y ∈ l := by
  induction m with
  | nil => exact .inr h
  | cons a m ih =>
    rcases mem_ins h with rfl | h
    · exact .inl (by simp)
    · rcases ih h with h | h
      · exact .inl (by simp [h])
      · exact .inr h

def predOf (acc : List (List Nat)) : List Edge → List Nat
  | [] => []
  | e :: l => if Region.binds .any e then ins e.on (insAll (acc.getD e.on []) (predOf acc l)) else predOf acc l

theorem mem_predOf {acc : List (List Nat)} {es : List Edge} {j : Nat} (h : j ∈ predOf acc es) : ∃ e ∈ es, Region.binds .any e = true ∧ (j = e.on ∨ j ∈ acc.getD e.on []) := by
  induction es with
  | nil => cases h
  | cons e l ih =>
    simp only [predOf] at h
    have tail : j ∈ predOf acc l → ∃ e' ∈ e :: l, Region.binds .any e' = true ∧ (j = e'.on ∨ j ∈ acc.getD e'.on []) := fun h => by
      obtain ⟨e', h1, h2⟩ := ih h
      exact ⟨e', List.mem_cons_of_mem _ h1, h2⟩
    split at h
    · rename_i hb
      rcases mem_ins h with h | h
      · exact ⟨e, by simp, hb, .inl h⟩
      · rcases mem_insAll h with h | h
        · exact ⟨e, by simp, hb, .inr h⟩
        · exact tail h
    · exact tail h

def predsGo : List Oper → List (List Nat) → List (List Nat)
  | [], acc => acc
  | o :: l, acc => predsGo l (acc ++ [predOf acc o.after.toList])

/-- Binding edges lead back. -/
def edgesGo : List Oper → Nat → Bool
  | [], _ => true
  | o :: l, i => (o.after.toList.all fun e => !Region.binds .any e || decide (e.on < i)) && edgesGo l (i + 1)

theorem predsGo_spec (l : List Oper) (acc : List (List Nat)) : ∃ rest, predsGo l acc = acc ++ rest ∧ rest.length = l.length := by
  induction l generalizing acc with
  | nil => exact ⟨[], by simp [predsGo], rfl⟩
  | cons o l ih =>
    obtain ⟨rest, h1, h2⟩ := ih (acc ++ [predOf acc o.after.toList])
    exact ⟨predOf acc o.after.toList :: rest, by simp [predsGo, h1], by simp [h2]⟩

theorem predsGo_at (l : List Oper) (acc : List (List Nat)) (i : Nat) (o : Oper) (h : l[i]? = some o) (he : edgesGo l acc.length = true) (j : Nat)
    (hj : j ∈ (predsGo l acc).getD (acc.length + i) []) :
    ∃ e ∈ o.after, Region.binds .any e = true ∧ e.on < acc.length + i ∧ (j = e.on ∨ j ∈ (predsGo l acc).getD e.on []) := by
  induction l generalizing acc i with
  | nil => simp at h
  | cons o' l ih =>
    simp only [edgesGo, Bool.and_eq_true, List.all_eq_true, Bool.or_eq_true, Bool.not_eq_true', decide_eq_true_eq] at he
    cases i with
    | zero =>
      simp only [List.getElem?_cons_zero, Option.some.injEq] at h
      subst h
      obtain ⟨rest, h1, h2⟩ := predsGo_spec l (acc ++ [predOf acc o'.after.toList])
      have hg : (predsGo (o' :: l) acc).getD (acc.length + 0) [] = predOf acc o'.after.toList := by
        simp only [predsGo, h1]
        simp [List.getD_eq_getElem?_getD]
      rw [hg] at hj
      obtain ⟨e, h3, h4, h5⟩ := mem_predOf hj
      have hlt := (he.1 e h3).resolve_left (by simp [h4])
      refine ⟨e, by simpa using h3, h4, by simpa using hlt, h5.imp id fun h5 => ?_⟩
      have : (predsGo (o' :: l) acc).getD e.on [] = acc.getD e.on [] := by
        simp only [predsGo, h1]
        simp [List.getD_eq_getElem?_getD, List.getElem?_append, hlt]
      rw [this]; exact h5
    | succ i =>
      simp only [List.getElem?_cons_succ] at h
      have := ih (acc ++ [predOf acc o'.after.toList]) i h (by simpa using he.2) (by simpa [predsGo, Nat.add_assoc, Nat.add_comm 1 i] using hj)
      simpa [predsGo, Nat.add_assoc, Nat.add_comm 1 i] using this

def preds (ops : Array Oper) : List (List Nat) := predsGo ops.toList []

theorem preds_at {ops : Array Oper} (he : edgesGo ops.toList 0 = true) {i j : Nat} {o : Oper} (h : ops[i]? = some o) (hj : j ∈ (preds ops).getD i []) :
    ∃ e ∈ o.after, Region.binds .any e = true ∧ e.on < i ∧ (j = e.on ∨ j ∈ (preds ops).getD e.on []) := by
  have := predsGo_at ops.toList [] i o (by simpa using h) he j (by simpa [preds] using hj)
  simpa [preds] using this

theorem edges_at {l : List Oper} {k : Nat} (he : edgesGo l k = true) {i : Nat} {o : Oper} (h : l[i]? = some o) : ∀ e ∈ o.after, Region.binds .any e = true → e.on < k + i := by
  induction l generalizing k i with
  | nil => simp at h
  | cons o' l ih =>
    simp only [edgesGo, Bool.and_eq_true, List.all_eq_true, Bool.or_eq_true, Bool.not_eq_true', decide_eq_true_eq] at he
    cases i with
    | zero =>
      simp only [List.getElem?_cons_zero, Option.some.injEq] at h
      subst h
      intro e hm hb
      exact (he.1 e (by simpa using hm)).resolve_left (by simp [hb])
    | succ i =>
      simp only [List.getElem?_cons_succ] at h
      intro e hm hb
      have := ih he.2 h e hm hb
      omega

/-! ### clashes -/
def clsClash : Cls → Cls → Bool
  | .quiet, _ => false
  | _, .quiet => false
  | .eff true, .load => false
  | .load, .eff true => false
  | .eff _, _ => true
  | _, .eff _ => true
  | .call, .call => true
  | .new d, .new d' => d == d'
  | _, _ => false

def hits (o o' : AOp) : Bool := match o.dst with
  | some t => o'.dst == some t || o'.uses.contains t
  | none => false

def clash (o o' : AOp) : Bool := clsClash o.cls o'.cls || hits o o' || hits o' o

theorem clash_spec {o o' : AOp} (h : clash o o' = false) : ∀ r, wrR o r → ¬wrR o' r ∧ ¬rdR o' r := by
  intro r hr
  simp only [clash, Bool.or_eq_false_iff] at h
  obtain ⟨⟨h1, h2⟩, h3⟩ := h
  cases r with
  | env t =>
    have hr : o.dst = some t := hr
    simp only [hits, hr, Bool.or_eq_false_iff] at h2
    refine ⟨fun hw => ?_, fun hw => ?_⟩
    · have hw : o'.dst = some t := hw
      simp [hw] at h2
    · have hw : t ∈ o'.uses := hw
      simp [hw] at h2
  | loc d =>
    have key : ¬(o'.cls = .new d ∨ ∃ b, o'.cls = .eff b) := by
      rintro (hw | ⟨b, hw⟩) <;> rcases hr with hr | ⟨b', hr⟩ <;> simp [hr, hw, clsClash] at h1
    exact ⟨key, key⟩
  | mem =>
    have key : ¬(o'.cls = .call ∨ ∃ b, o'.cls = .eff b) := by
      rintro (hw | ⟨b, hw⟩) <;> rcases hr with hr | ⟨b', hr⟩ <;> simp [hr, hw, clsClash] at h1
    exact ⟨key, key⟩

theorem clash_symm (o o' : AOp) : clash o o' = clash o' o := by
  have : clsClash o.cls o'.cls = clsClash o'.cls o.cls := by
    cases o.cls <;> cases o'.cls <;> (try rename_i b; cases b) <;> (try rename_i b; cases b) <;> simp [clsClash, Bool.beq_comm]
  simp only [clash, this, Bool.or_assoc, Bool.or_comm (hits o o')]

def cmp (pre : List (List Nat)) (i j : Nat) : Bool := (pre.getD j []).contains i || (pre.getD i []).contains j

def drawOK (l : List AOp) (pre : List (List Nat)) : Bool :=
  (List.range l.length).all fun j => (List.range l.length).all fun i => decide (i = j) || cmp pre i j || (match l[i]?, l[j]? with
    | some oi, some oj => !clash oi oj
    | _, _ => true)

def isCls (p : Cls → Bool) (l : List AOp) (i : Nat) : Bool := match l[i]? with
  | some o => p o.cls
  | none => false
def pairs (l : List AOp) (pre : List (List Nat)) (p q : Cls → Bool) : List (Nat × Nat) :=
  ((List.range l.length).filter (isCls p l)).flatMap fun i => (((List.range l.length).filter (isCls q l)).filter fun j => !(cmp pre i j)).map fun j => (i, j)

def isLoad : Cls → Bool
  | .load => true
  | _ => false
def isCall : Cls → Bool
  | .call => true
  | .eff true => true
  | _ => false
def isNew : Cls → Bool
  | .new _ => true
  | _ => false

theorem mem_pairs {l : List AOp} {pre : List (List Nat)} {p q : Cls → Bool} {i j : Nat} {o o' : AOp} (h1 : l[i]? = some o) (h2 : l[j]? = some o') (hp : p o.cls = true) (hq : q o'.cls = true)
    (hc : cmp pre i j = false) : (i, j) ∈ pairs l pre p q := by
  have hi : i < l.length := (List.getElem?_eq_some_iff.1 h1).1
  have hj : j < l.length := (List.getElem?_eq_some_iff.1 h2).1
  simp only [pairs, List.mem_flatMap, List.mem_map, List.mem_filter, List.mem_range, Prod.mk.injEq, isCls]
  exact ⟨i, ⟨hi, by simp [h1, hp]⟩, j, ⟨⟨hj, by simp [h2, hq]⟩, by simp [hc]⟩, rfl, rfl⟩

/-! ### equality told by the test -/
mutual
theorem AV.eq_of_beq : ∀ (a b : AV), AV.beq a b = true → a = b
  | .undef, b, h => by cases b <;> simp [AV.beq] at h; rfl
  | .junk, b, h => by cases b <;> simp [AV.beq] at h; rfl
  | .int k n, b, h => by cases b <;> simp [AV.beq] at h; rw [h.1, h.2]
  | .bool x, b, h => by cases b <;> simp [AV.beq] at h; rw [h]
  | .str s, b, h => by cases b <;> simp [AV.beq] at h; rw [h]
  | .nilp, b, h => by cases b <;> simp [AV.beq] at h; rfl
  | .lptr d v o, b, h => by cases b <;> simp [AV.beq] at h; rw [h.1.1, h.1.2, h.2]
  | .gptr d o, b, h => by cases b <;> simp [AV.beq] at h; rw [h.1, h.2]
  | .ref l, b, h => by cases b <;> simp [AV.beq] at h; rw [AV.eq_of_beqs _ _ h]
  | .sl kd i o n c, b, h => by cases b <;> simp [AV.beq] at h; rw [h.1.1.1.1, h.1.1.1.2, h.1.1.2, h.1.2, h.2]
  | .list c l, b, h => by cases b <;> simp [AV.beq] at h; rw [h.1, AV.eq_of_beqs _ _ h.2]
  | .agg l, b, h => by cases b <;> simp [AV.beq] at h; rw [AV.eq_of_beqs _ _ h]
  | .tup l, b, h => by cases b <;> simp [AV.beq] at h; rw [AV.eq_of_beqs _ _ h]
  | .fn f x y, b, h => by cases b <;> simp [AV.beq] at h; rw [h.1.1, AV.eq_of_beqs _ _ h.1.2, AV.eq_of_beqs _ _ h.2]
  | .nilfn, b, h => by cases b <;> simp [AV.beq] at h; rfl
  | .iface t v, b, h => by cases b <;> simp [AV.beq] at h; rw [h.1, AV.eq_of_beq _ _ h.2]
  | .nilif, b, h => by cases b <;> simp [AV.beq] at h; rfl
  | .map i, b, h => by cases b <;> simp [AV.beq] at h; rw [h]
  | .nilmap, b, h => by cases b <;> simp [AV.beq] at h; rfl
theorem AV.eq_of_beqs : ∀ (a b : List AV), AV.beqs a b = true → a = b
  | [], b, h => by cases b <;> simp [AV.beqs] at h; rfl
  | x :: l, b, h => by
    cases b with
    | nil => simp [AV.beqs] at h
    | cons y m => simp [AV.beqs] at h; rw [AV.eq_of_beq _ _ h.1, AV.eq_of_beqs _ _ h.2]
end

theorem eqRd_eq {a b : Option (List AV)} (h : eqRd a b = true) : a = b := by
  cases a <;> cases b <;> simp [eqRd] at h
  rw [AV.eq_of_beqs _ _ h]

end Go.Abs

/- Regions that draw their order: the machine's regions. -/
namespace Go.Abs

theorem cOps_len {P : Program} {esc : Nat → Bool} {N : Nat} {ops : Array Oper} {l : List Oper} {l' : List AOp} (h : cOps P esc N ops l = some l') : l'.length = l.length := by
  induction l generalizing l' with
  | nil => cases h; rfl
  | cons o l ih =>
    simp only [cOps] at h
    split at h
    · rename_i h1 h2; cases h; simp [ih h2]
    · cases h

theorem cOps_at {P : Program} {esc : Nat → Bool} {N : Nat} {ops : Array Oper} {l : List Oper} {l' : List AOp} (h : cOps P esc N ops l = some l') {i : Nat} {o : Oper} (hi : l[i]? = some o) :
    ∃ o', l'[i]? = some o' ∧ cOp1 P esc N ops o = some o' := by
  induction l generalizing l' i with
  | nil => simp at hi
  | cons x l ih =>
    simp only [cOps] at h
    split at h
    · rename_i h1 h2
      cases h
      cases i with
      | zero => simp only [List.getElem?_cons_zero, Option.some.injEq] at hi; subst hi; exact ⟨_, rfl, h1⟩
      | succ i => simp only [List.getElem?_cons_succ] at hi ⊢; exact ih h2 hi
    · cases h

/-- A trace. -/
structure Trace (gl : Nat → AV) (callv : CallV) (l : List AOp) (T : Nat → St) : Prop where
  step : ∀ i o, l[i]? = some o → astep gl callv o (T i) = some (T (i + 1))

theorem ascan_at {gl : Nat → AV} {callv : CallV} {l : List AOp} {s : St} {tr : List St} (h : ascan gl callv l s = some tr) :
    tr.length = l.length + 1 ∧ tr[0]? = some s ∧ ∀ i o, l[i]? = some o → ∃ a b, tr[i]? = some a ∧ tr[i + 1]? = some b ∧ astep gl callv o a = some b := by
  induction l generalizing s tr with
  | nil => cases h; exact ⟨rfl, rfl, fun i o h => by simp at h⟩
  | cons x l ih =>
    simp only [ascan] at h
    split at h
    · rename_i s' he
      simp only [Option.map_eq_some_iff] at h
      obtain ⟨t, ht, rfl⟩ := h
      obtain ⟨h1, h2, h3⟩ := ih ht
      refine ⟨by simp [h1], rfl, fun i o ho => ?_⟩
      cases i with
      | zero =>
        simp only [List.getElem?_cons_zero, Option.some.injEq] at ho
        subst ho
        exact ⟨s, s', rfl, by simpa using h2, he⟩
      | succ i =>
        simp only [List.getElem?_cons_succ] at ho ⊢
        exact h3 i o ho
    · cases h

section
variable {gl : Nat → AV} {callv : CallV} {l : List AOp} {T : Nat → St}

/-- Where nothing writes, nothing changes. -/
theorem Trace.same (hT : Trace gl callv l T) {r : Res} {i : Nat} : ∀ {k : Nat}, i ≤ k → k ≤ l.length → (∀ j o, i ≤ j → j < k → l[j]? = some o → ¬wrR o r) → agree r (T k) (T i) := by
  intro k
  induction k with
  | zero => intro h _ _; obtain rfl : i = 0 := (by omega); exact agree_refl _ _
  | succ k ih =>
    intro h hk hn
    rcases Nat.lt_or_ge k i with hlt | hge
    · obtain rfl : i = k + 1 := by omega
      exact agree_refl _ _
    · have h1 := ih hge (by omega) fun j o hj hj' => hn j o hj (by omega)
      have hlt : k < l.length := by omega
      have hst := hT.step k l[k] (List.getElem?_eq_getElem hlt)
      obtain ⟨s1, h2, _, h4⟩ := astep_sync (s := T k) hst (fun r _ => agree_refl r _) (fun _ _ _ _ _ => rfl)
      exact agree_trans (h4 r (hn k l[k] hge (by omega) (List.getElem?_eq_getElem hlt))).2 h1

/-- Either nothing wrote since, or there is a last one that did. -/
theorem Trace.last (hT : Trace gl callv l T) {r : Res} {i : Nat} : ∀ {k : Nat}, i ≤ k → k ≤ l.length →
    agree r (T k) (T i) ∨ ∃ j o, i ≤ j ∧ j < k ∧ l[j]? = some o ∧ wrR o r ∧ agree r (T k) (T (j + 1)) := by
  intro k
  induction k with
  | zero => intro h _; obtain rfl : i = 0 := (by omega); exact .inl (agree_refl _ _)
  | succ k ih =>
    intro h hk
    rcases Nat.lt_or_ge k i with hlt | hge
    · obtain rfl : i = k + 1 := by omega
      exact .inl (agree_refl _ _)
    · have hlt : k < l.length := by omega
      have ho : l[k]? = some l[k] := List.getElem?_eq_getElem hlt
      by_cases hw : wrR l[k] r
      · exact .inr ⟨k, l[k], hge, by omega, ho, hw, agree_refl _ _⟩
      · have hst := hT.step k l[k] ho
        obtain ⟨s1, h2, _, h4⟩ := astep_sync (s := T k) hst (fun r _ => agree_refl r _) (fun _ _ _ _ _ => rfl)
        have h5 := (h4 r hw).2
        rcases ih hge (by omega) with h1 | ⟨j, o, k1, k2, k3, k4, k5⟩
        · exact .inl (agree_trans h5 h1)
        · exact .inr ⟨j, o, k1, by omega, k3, k4, agree_trans h5 k5⟩

def Inv (l : List AOp) (T : Nat → St) (listed : Nat → Prop) (s : St) : Prop :=
  ∀ r k, k ≤ l.length → (∀ j o, j < k → l[j]? = some o → wrR o r → listed j) → (∀ j o, k ≤ j → l[j]? = some o → wrR o r → ¬listed j) → agree r s (T k)

/-- What holds of a region whose operations are in order, as far as they must be. -/
structure Orderly (gl : Nat → AV) (l : List AOp) (T : Nat → St) (Pre : Nat → Nat → Prop) : Prop where
  back : ∀ i j, Pre i j → i < j
  free : ∀ i j oi oj, l[i]? = some oi → l[j]? = some oj → i ≠ j → ¬Pre i j → ¬Pre j i → clash oi oj = false
  cf : ∀ i j oi oj ag n a, l[i]? = some oi → l[j]? = some oj → oi.op = .ld ag n a → (oj.cls = .call ∨ oj.cls = .eff true) → ¬Pre i j → ¬Pre j i → wantedA (T i).env oi.guard ≠ some false →
    ∀ id off, evO gl (T i).env a = .gptr id off → rd (fun _ => none) (T j).mem (.gptr id off) n = rd (fun _ => none) (T i).mem (.gptr id off) n ∧
      rd (fun _ => none) (T (j + 1)).mem (.gptr id off) n = rd (fun _ => none) (T i).mem (.gptr id off) n
  sf : ∀ i j oi oj ag n a, l[i]? = some oi → l[j]? = some oj → oi.op = .ld ag n a → oj.cls = .eff true → ¬Pre i j → ¬Pre j i → wantedA (T i).env oi.guard ≠ some false →
    ∀ d v off, evO gl (T i).env a = .lptr d v off → rd (lget (T j).loc) (T j).mem (.lptr d v off) n = rd (lget (T i).loc) (T i).mem (.lptr d v off) n ∧
      rd (lget (T (j + 1)).loc) (T (j + 1)).mem (.lptr d v off) n = rd (lget (T i).loc) (T i).mem (.lptr d v off) n
  af : ∀ i j oi oj ag n a d, l[i]? = some oi → l[j]? = some oj → oj.op = .ld ag n a → oi.cls = .new d → ¬Pre i j → ¬Pre j i →
    ∀ v off, evO gl (T j).env a = .lptr d v off → False

theorem cls_ld {o : AOp} {ag n a} (h : o.op = .ld ag n a) : o.cls = .load := by
  obtain ⟨dst, op, gd⟩ := o
  cases h; rfl

theorem new_dst {o : AOp} {d : Nat} (h : o.cls = .new d) : o.dst = some d := by
  obtain ⟨dst, op, gd⟩ := o
  cases op with
  | alloc g z => cases g <;> cases dst <;> simp_all [AOp.cls]
  | box g n x => cases g <;> cases dst <;> simp_all [AOp.cls]
  | rng x => cases dst <;> simp_all [AOp.cls]
  | _ => simp [AOp.cls] at h

/-- **An operation whose turn it is does what it did in the text's order.** -/
theorem orderly_step (hT : Trace gl callv l T) {Pre : Nat → Nat → Prop} (hO : Orderly gl l T Pre) {listed : Nat → Prop} {s : St} (hI : Inv l T listed s)
    (hcl : ∀ i j, Pre i j → listed j → listed i) {i : Nat} {o : AOp} (ho : l[i]? = some o) (hun : ¬listed i) (hrdy : ∀ j, Pre j i → listed j) :
    ∃ s1, astep gl callv o s = some s1 ∧ Inv l T (fun j => listed j ∨ j = i) s1 := by
  have hi : i < l.length := (List.getElem?_eq_some_iff.1 ho).1
  -- what its own fellows wrote
  have side : ∀ r, (∀ j oj, l[j]? = some oj → wrR oj r → j ≠ i → Pre i j ∨ Pre j i) → agree r s (T i) := by
    intro r hr
    refine hI r i (Nat.le_of_lt hi) (fun j oj hj hoj hw => ?_) (fun j oj hj hoj hw hl => ?_)
    · rcases hr j oj hoj hw (by omega) with h | h
      · have := hO.back _ _ h; omega
      · exact hrdy j h
    · rcases Nat.eq_or_lt_of_le hj with rfl | hlt
      · exact hun hl
      · rcases hr j oj hoj hw (by omega) with h | h
        · exact hun (hcl _ _ h hl)
        · have := hO.back _ _ h; omega
  have hrd : ∀ r, rdR o r → agree r s (T i) := by
    intro r hr
    refine side r fun j oj hoj hw hne => ?_
    by_cases h1 : Pre i j
    · exact .inl h1
    · by_cases h2 : Pre j i
      · exact .inr h2
      · exact absurd hr (clash_spec (hO.free j i oj o hoj ho hne h2 h1) r hw).2
  -- what a load looks at, in whatever order those stand who are not in order with it
  have look : ∀ {β : Type} (f : St → β) (r : Res), (∀ s s', agree r s s' → f s = f s') →
      (∀ j oj, l[j]? = some oj → wrR oj r → j ≠ i → ¬Pre i j → ¬Pre j i → f (T j) = f (T i) ∧ f (T (j + 1)) = f (T i)) → f s = f (T i) := by
    intro β f r hf hgood
    have ⟨k, hk, hk1, hk2⟩ : ∃ k, k ≤ l.length ∧ (∀ j oj, j < k → l[j]? = some oj → wrR oj r → listed j) ∧ (k = l.length ∨ ∃ ok, l[k]? = some ok ∧ wrR ok r ∧ ¬listed k) := by
      have : ∀ k, k ≤ l.length → (∀ j oj, j < k → l[j]? = some oj → wrR oj r → listed j) ∨ ∃ m, m < k ∧ (∀ j oj, j < m → l[j]? = some oj → wrR oj r → listed j) ∧ ∃ ok, l[m]? = some ok ∧ wrR ok r ∧ ¬listed m := by
        intro k
        induction k with
        | zero => intro _; exact .inl fun j oj hj => by omega
        | succ k ih =>
          intro hk
          rcases ih (by omega) with h | ⟨m, h1, h2⟩
          · have hok : l[k]? = some l[k] := List.getElem?_eq_getElem (by omega)
            by_cases hx : wrR l[k] r ∧ ¬listed k
            · exact .inr ⟨k, by omega, h, _, hok, hx⟩
            · refine .inl fun j oj hj hoj hwr => ?_
              rcases Nat.lt_or_ge j k with hlt | hge
              · exact h j oj hlt hoj hwr
              · obtain rfl : j = k := by omega
                rw [hok] at hoj; cases hoj
                exact Classical.byContradiction fun hn => hx ⟨hwr, hn⟩
          · exact .inr ⟨m, by omega, h2⟩
      rcases this l.length (Nat.le_refl _) with h | ⟨m, h1, h2, h3⟩
      · exact ⟨l.length, Nat.le_refl _, h, .inl rfl⟩
      · exact ⟨m, Nat.le_of_lt h1, h2, .inr h3⟩
    have hmem : agree r s (T k) := by
      refine hI r k hk hk1 fun j oj hj hoj hwr hl => ?_
      rcases hk2 with rfl | ⟨ok, h1, h2, h3⟩
      · have := (List.getElem?_eq_some_iff.1 hoj).1; omega
      · rcases Nat.eq_or_lt_of_le hj with rfl | hlt
        · exact h3 hl
        · by_cases g1 : Pre k j
          · exact h3 (hcl _ _ g1 hl)
          · by_cases g2 : Pre j k
            · have := hO.back _ _ g2; omega
            · exact (clash_spec (hO.free k j ok oj h1 hoj (by omega) g1 g2) r h2).1 hwr
    rw [hf _ _ hmem]
    have ordered : i ≤ k → f (T k) = f (T i) := by
      intro hik
      rcases hT.last (r := r) hik hk with h | ⟨j, oj, g1, g2, g3, g4, g5⟩
      · exact hf _ _ h
      · rw [hf _ _ g5]
        have hl := hk1 j oj g2 g3 g4
        have hne : j ≠ i := fun h => hun (h ▸ hl)
        have n1 : ¬Pre i j := fun h => hun (hcl _ _ h hl)
        have n2 : ¬Pre j i := fun h => by have := hO.back _ _ h; omega
        exact (hgood j oj g3 g4 hne n1 n2).2
    rcases hk2 with rfl | ⟨ok, h1, h2, h3⟩
    · exact ordered (Nat.le_of_lt hi)
    · by_cases g1 : Pre i k
      · exact ordered (Nat.le_of_lt (hO.back _ _ g1))
      · by_cases g2 : Pre k i
        · exact absurd (hrdy k g2) h3
        · by_cases hki : k = i
          · exact ordered (by omega)
          · exact (hgood k ok h1 h2 hki g1 g2).1
  have hld : LdOK gl o s (T i) := by
    intro ag n a hop hw
    cases hp : evO gl (T i).env a with
    | lptr d v off =>
      refine look (fun s => rd (lget s.loc) s.mem (.lptr d v off) n) (.loc d) (fun s s' h => ?_) fun j oj hoj hwr hne n1 n2 => ?_
      · simp only [rd]
        rw [show lget s.loc d = lget s'.loc d from h]
      · rcases hwr with hwr | ⟨b, hwr⟩
        · exact (hO.af j i oj o ag n a d hoj ho hop hwr n2 n1 v off hp).elim
        · cases b with
          | false =>
            have := hO.free j i oj o hoj ho hne n2 n1
            simp [clash, hwr, cls_ld hop, clsClash] at this
          | true => exact hO.sf i j o oj ag n a ho hoj hop hwr n1 n2 hw d v off hp
    | gptr id off =>
      refine look (fun s => rd (lget s.loc) s.mem (.gptr id off) n) .mem (fun s s' h => ?_) fun j oj hoj hwr hne n1 n2 => ?_
      · show rd (fun _ => none) s.mem (.gptr id off) n = rd (fun _ => none) s'.mem (.gptr id off) n
        rw [show s.mem = s'.mem from h]
      · refine hO.cf i j o oj ag n a ho hoj hop ?_ n1 n2 hw id off hp
        rcases hwr with hwr | ⟨b, hwr⟩
        · exact .inl hwr
        · cases b with
          | false =>
            have := hO.free j i oj o hoj ho hne n2 n1
            simp [clash, hwr, cls_ld hop, clsClash] at this
          | true => exact .inr hwr
    | _ => rfl
  obtain ⟨s1, h1, h2, h3⟩ := astep_sync (hT.step i o ho) hrd hld
  refine ⟨s1, h1, fun r k hk hlt hge => ?_⟩
  by_cases hw : wrR o r
  · have hik : i < k := by
      rcases Nat.lt_or_ge i k with h | h
      · exact h
      · exact absurd (.inr rfl) (hge i o h ho hw)
    refine agree_trans (h2 r hw) (agree_symm (hT.same (i := i + 1) hik hk fun j oj hj hjk hoj hwj => ?_))
    have hl : listed j := (hlt j oj hjk hoj hwj).resolve_right (by omega)
    by_cases g1 : Pre i j
    · exact hun (hcl _ _ g1 hl)
    · by_cases g2 : Pre j i
      · have := hO.back _ _ g2; omega
      · exact (clash_spec (hO.free i j o oj ho hoj (by omega) g1 g2) r hw).1 hwj
  · refine agree_trans (h3 r hw).1 (hI r k hk (fun j oj hj hoj hwj => ?_) (fun j oj hj hoj hwj hl => hge j oj hj hoj hwj (.inl hl)))
    refine (hlt j oj hj hoj hwj).resolve_right ?_
    rintro rfl
    rw [ho] at hoj; cases hoj
    exact hw hwj

end
end Go.Abs
