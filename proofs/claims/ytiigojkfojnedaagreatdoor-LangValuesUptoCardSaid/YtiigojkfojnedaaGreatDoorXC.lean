/- What an abstract value says of a value in a world: the relation, and how it is carried along. -/
import Derived.Test.YtiigojkfojnedaaGreatDoorXB
import Derived.Laws.AppendOwn
import Derived.Laws.CopyRow
import Derived.Laws.Tables
import Derived.Deep.MidRow
import Derived.Below
set_option linter.unusedVariables false
set_option linter.unusedSimpArgs false
namespace Go.Abs

structure Gh where
  im : Nat → Nat → Option Value
  mb : Nat → Option Nat
  rows : Nat → Nat → Option (Nat × Nat)

abbrev LB := Nat → Nat → Option Nat

def Gh.sub (g g' : Gh) : Prop :=
  (∀ b o x, g.im b o = some x → g'.im b o = some x) ∧ (∀ id b, g.mb id = some b → g'.mb id = some b) ∧ (∀ t n x, g.rows t n = some x → g'.rows t n = some x)

def Gh.cut (g : Gh) (n : Nat) : Gh :=
  { im := g.im, mb := fun id => if id < n then g.mb id else none, rows := fun t m => if t < n then g.rows t m else none }

def capOK (g : Gh) (n b o cap : Nat) : Cap → Prop
  | .any => True
  | .full => cap = n
  | .nil => False
  | .own t => o = 0 ∧ g.rows t n = some (b, cap)

def noLB : LB := fun _ _ => none

/-- Functions: those of the program, and a loop's yield, by its record. -/
def FnR (mb : Nat → Option Nat) : Fn → Fn → Prop
  | .func f, .func f' => f' = f
  | .yield i, .yield b => mb i = some b
  | _, _ => False

theorem FnR.mono {mb mb' : Nat → Option Nat} (hm : ∀ i b, mb i = some b → mb' i = some b) {f f' : Fn} (h : FnR mb f f') : FnR mb' f f' := by
  cases f <;> cases f' <;> first | exact h | exact hm _ _ h | exact h.elim

/-- What an abstract value says of a value; lb: where the private variables of one's own activation lie. What lies in memory that never turns holds none of these. -/
inductive VR (g : Gh) : LB → AV → Value → Prop
  | undef (lb : LB) : VR g lb .undef (.tuple #[])
  | junk (lb : LB) (x : Value) (h : x.oneCell' = true) : VR g lb .junk x
  | int (lb : LB) (k : IntKind) (n : Int) : VR g lb (.int k n) (.int k n)
  | bool (lb : LB) (b : Bool) : VR g lb (.bool b) (.bool b)
  | str (lb : LB) (b : ByteArray) (s : List Nat) (h : b.data.toList.map UInt8.toNat = s) : VR g lb (.str s) (.string b)
  | nilp (lb : LB) : VR g lb .nilp (.pointer none)
  | lptr (lb : LB) (d v off b : Nat) (h : lb d v = some b) : VR g lb (.lptr d v off) (.pointer (some ⟨b, off, none⟩))
  | gptr (lb : LB) (id off b : Nat) (h : g.mb id = some b) : VR g lb (.gptr id off) (.pointer (some ⟨b, off, none⟩))
  | ref (lb : LB) (l : List AV) (b o : Nat) (xs : Nat → Value) (him : ∀ i, i < l.length → g.im b (o + i) = some (xs i) ∧ (xs i).oneCell' = true)
      (hv : ∀ i (h : i < l.length), VR g noLB l[i] (xs i)) : VR g lb (.ref l) (.pointer (some ⟨b, o, none⟩))
  | listNil (lb : LB) : VR g lb (.list .nil []) (.slice none 0 0)
  | listE (lb : LB) (c : Cap) (a : Addr) (cap : Nat) (hc : c = .any ∨ (c = .full ∧ cap = 0)) : VR g lb (.list c []) (.slice (some a) 0 cap)
  | sl (lb : LB) (kd id off n cap b : Nat) (hc : n ≤ cap) (h : g.mb id = some b) : VR g lb (.sl kd id off n cap) (.slice (some ⟨b, off, none⟩) n cap)
  | list (lb : LB) (c : Cap) (l : List AV) (b o sz n cap : Nat) (xs : Nat → Nat → Value) (hn : l.length = n) (hcap : n ≤ cap) (hc : capOK g n b o cap c)
      (hsz : ∀ e ∈ l, e.cells.length = sz)
      (him : ∀ i, i < n → ∀ j, j < sz → g.im b (o + (i * sz + j)) = some (xs i j) ∧ (xs i j).oneCell' = true)
      (hv : ∀ i (h : i < l.length) j (hj : j < l[i].cells.length), VR g noLB l[i].cells[j] (xs i j)) : VR g lb (.list c l) (.slice (some ⟨b, o, none⟩) n cap)
  | agg (lb : LB) (l : List AV) (a : Array Value) (hs : a.size = l.length) (h1 : ∀ i (h : i < a.size), a[i].oneCell' = true)
      (hv : ∀ i (h : i < l.length) (h' : i < a.size), VR g lb l[i] a[i]) : VR g lb (.agg l) (.agg a)
  | tup (lb : LB) (l : List AV) (a : Array Value) (hs : a.size = l.length)
      (hv : ∀ i (h : i < l.length) (h' : i < a.size), VR g lb l[i] a[i]) : VR g lb (.tup l) (.tuple a)
  | fn (lb : LB) (f f' : Fn) (l m : List AV) (a b : Array Value) (hs : a.size = l.length) (ht : b.size = m.length)
      (hy : FnR g.mb f f')
      (hv : ∀ i (h : i < l.length) (h' : i < a.size), VR g lb l[i] a[i]) (hw : ∀ i (h : i < m.length) (h' : i < b.size), VR g lb m[i] b[i]) :
      VR g lb (.fn f l m) (.func f' a b)
  | nilfn (lb : LB) : VR g lb .nilfn .nilFunc
  | iface (lb : LB) (t : TypeId) (v : AV) (x : Value) (h : VR g lb v x) : VR g lb (.iface t v) (.iface t x)
  | nilif (lb : LB) : VR g lb .nilif .nilIface
  | map (lb : LB) (id b : Nat) (h : g.mb id = some b) : VR g lb (.map id) (.map (some b))
  | nilmap (lb : LB) : VR g lb .nilmap (.map none)

theorem capOK_mono {g g' : Gh} {n b o cap : Nat} {c : Cap} (hg : g.sub g') (h : capOK g n b o cap c) : capOK g' n b o cap c := by
  cases c with
  | any => trivial
  | full => exact h
  | nil => exact h
  | own t => exact ⟨h.1, hg.2.2 _ _ _ h.2⟩

theorem VR.mono {g g' : Gh} {lb lb' : LB} {v : AV} {x : Value} (hg : g.sub g') (hl : ∀ d i b, lb d i = some b → lb' d i = some b) (h : VR g lb v x) : VR g' lb' v x := by
  induction h generalizing lb' with
  | undef => exact .undef _
  | junk _ x h => exact .junk _ x h
  | int _ k n => exact .int _ k n
  | bool _ b => exact .bool _ b
  | str _ b s h => exact .str _ b s h
  | nilp => exact .nilp _
  | lptr _ d v off b h => exact .lptr _ d v off b (hl _ _ _ h)
  | gptr _ id off b h => exact .gptr _ id off b (hg.2.1 _ _ h)
  | ref _ l b o xs him _ ih => exact .ref _ l b o xs (fun i hi => ⟨hg.1 _ _ _ (him i hi).1, (him i hi).2⟩) fun i hi => ih i hi fun _ _ _ h => h
  | listNil => exact .listNil _
  | listE _ c a cap hc => exact .listE _ c a cap hc
  | sl _ kd id off n cap b hc h => exact .sl _ kd id off n cap b hc (hg.2.1 _ _ h)
  | list _ c l b o sz n cap xs hn hcap hc hsz him _ ih =>
    exact .list _ c l b o sz n cap xs hn hcap (capOK_mono hg hc) hsz (fun i hi j hj => ⟨hg.1 _ _ _ (him i hi j hj).1, (him i hi j hj).2⟩) fun i hi j hj => ih i hi j hj fun _ _ _ h => h
  | agg _ l a hs h1 _ ih => exact .agg _ l a hs h1 fun i hi hi' => ih i hi hi' hl
  | tup _ l a hs _ ih => exact .tup _ l a hs fun i hi hi' => ih i hi hi' hl
  | fn _ f f' l m a b hs ht hy _ _ ih1 ih2 =>
    exact .fn _ f f' l m a b hs ht (hy.mono hg.2.1) (fun i hi hi' => ih1 i hi hi' hl) (fun i hi hi' => ih2 i hi hi' hl)
  | nilfn => exact .nilfn _
  | iface _ t v x _ ih => exact .iface _ t v x (ih hl)
  | nilif => exact .nilif _
  | map _ id b h => exact .map _ id b (hg.2.1 _ _ h)
  | nilmap => exact .nilmap _

theorem Gh.sub_refl (g : Gh) : g.sub g := ⟨fun _ _ _ h => h, fun _ _ h => h, fun _ _ _ h => h⟩
theorem Gh.sub_trans {a b c : Gh} (h : a.sub b) (k : b.sub c) : a.sub c :=
  ⟨fun _ _ _ x => k.1 _ _ _ (h.1 _ _ _ x), fun _ _ x => k.2.1 _ _ (h.2.1 _ _ x), fun _ _ _ x => k.2.2 _ _ _ (h.2.2 _ _ _ x)⟩

theorem VR.sub {g g' : Gh} {lb : LB} {v : AV} {x : Value} (hg : g.sub g') (h : VR g lb v x) : VR g' lb v x := h.mono hg fun _ _ _ h => h

theorem cells_exp (n : Nat) (k : Bool) (v : AV) : (exp n k v).cells = v.cells.map (exp n k) := by
  cases v with
  | gptr id off => simp only [exp, AV.cells, List.map_cons, List.map_nil]; by_cases h : id < n <;> simp [h]
  | fn f a b => simp only [exp, AV.cells, List.map_cons, List.map_nil]; by_cases h : Fn.below n f = true <;> simp [h]
  | map id => simp only [exp, AV.cells, List.map_cons, List.map_nil]; by_cases h : id < n <;> simp [h]
  | sl kd id off m cap => simp only [exp, AV.cells, List.map_cons, List.map_nil]; by_cases h : id < n <;> simp [h]
  | _ => simp [exp, AV.cells, exps_eq]

theorem capOK_exp {g : Gh} {n b o cap m : Nat} {k : Bool} {c : Cap} (h : capOK g n b o cap c) : capOK (g.cut m) n b o cap (c.exp m k) := by
  cases c with
  | any => trivial
  | nil => exact h
  | full =>
    simp only [Cap.exp]
    split
    · exact h
    · trivial
  | own t =>
    simp only [Cap.exp]
    split
    · rename_i hk
      simp only [Bool.and_eq_true, decide_eq_true_eq] at hk
      exact ⟨h.1, by simp only [Gh.cut, hk.2, if_true]; exact h.2⟩
    · trivial

theorem VR.exp {g : Gh} {lb lb' : LB} {v : AV} {x : Value} (m : Nat) (k : Bool) (h : VR g lb v x) : VR (g.cut m) lb' (exp m k v) x := by
  induction h generalizing lb' with
  | undef => exact .undef _
  | junk _ x h => exact .junk _ x h
  | int _ k n => exact .int _ k n
  | bool _ b => exact .bool _ b
  | str _ b s h => exact .str _ b s h
  | nilp => exact .nilp _
  | lptr _ d v off b h => exact .junk _ _ rfl
  | gptr _ id off b h =>
    simp only [Abs.exp]
    split
    · rename_i hi; exact .gptr _ id off b (by simp only [Gh.cut, hi, if_true]; exact h)
    · exact .junk _ _ rfl
  | ref _ l b o xs him _ ih =>
    simp only [Abs.exp, exps_eq]
    refine .ref _ _ b o xs (fun i hi => him i (by simpa using hi)) (fun i hi => ?_)
    simp only [List.getElem_map]
    exact ih i (by simpa using hi)
  | listNil =>
    simp only [Abs.exp, exps_eq, List.map_nil, Cap.exp]
    exact .listNil _
  | listE _ c a cap hc =>
    simp only [Abs.exp, exps_eq, List.map_nil]
    refine .listE _ _ a cap ?_
    rcases hc with rfl | ⟨rfl, h⟩
    · exact .inl rfl
    · simp only [Cap.exp]
      split
      · exact .inr ⟨rfl, h⟩
      · exact .inl rfl
  | sl _ kd id off n cap b hc h =>
    simp only [Abs.exp]
    split
    · rename_i hi; exact .sl _ kd id off n cap b hc (by simp only [Gh.cut, hi, if_true]; exact h)
    · exact .junk _ _ rfl
  | list _ c l b o sz n cap xs hn hcap hc hsz him _ ih =>
    simp only [Abs.exp, exps_eq]
    refine .list _ _ _ b o sz n cap xs (by simpa using hn) hcap (capOK_exp hc) ?_ him ?_
    · intro e he
      obtain ⟨e', he', rfl⟩ := List.mem_map.1 he
      rw [cells_exp, List.length_map]; exact hsz e' he'
    · intro i hi j hj
      have hi' : i < l.length := by simpa using hi
      have hj' : j < l[i].cells.length := by simpa [cells_exp] using hj
      have := ih i hi' j hj' (lb' := noLB)
      simpa [cells_exp] using this
  | agg _ l a hs h1 _ ih =>
    simp only [Abs.exp, exps_eq]
    refine .agg _ _ a (by simpa using hs) h1 fun i hi hi' => ?_
    simp only [List.getElem_map]
    exact ih i (by simpa using hi) hi'
  | tup _ l a hs _ ih =>
    simp only [Abs.exp, exps_eq]
    refine .tup _ _ a (by simpa using hs) fun i hi hi' => ?_
    simp only [List.getElem_map]
    exact ih i (by simpa using hi) hi'
  | fn _ f f' l m' a b hs ht hy _ _ ih1 ih2 =>
    simp only [Abs.exp, exps_eq]
    split
    · rename_i hf
      refine .fn _ f f' _ _ a b (by simpa using hs) (by simpa using ht) ?_ (fun i hi hi' => ?_) (fun i hi hi' => ?_)
      · cases f <;> cases f' <;> first | exact hy | exact hy.elim | skip
        simp only [Fn.below, decide_eq_true_eq] at hf
        simp only [FnR, Gh.cut, hf, if_true]
        exact hy
      · simp only [List.getElem_map]
        exact ih1 i (by simpa using hi) hi'
      · simp only [List.getElem_map]
        exact ih2 i (by simpa using hi) hi'
    · exact .junk _ _ rfl
  | nilfn => exact .nilfn _
  | iface _ t v x _ ih => exact .iface _ t _ x ih
  | nilif => exact .nilif _
  | map _ id b h =>
    simp only [Abs.exp]
    split
    · rename_i hi; exact .map _ id b (by simp only [Gh.cut, hi, if_true]; exact h)
    · exact .junk _ _ rfl
  | nilmap => exact .nilmap _

theorem cells_nol (v : AV) : (nol v).cells = v.cells.map nol := by
  cases v <;> simp [nol, AV.cells, nols_eq]

theorem VR.nol {g : Gh} {lb lb' : LB} {v : AV} {x : Value} (h : VR g lb v x) : VR g lb' (nol v) x := by
  induction h generalizing lb' with
  | undef => exact .undef _
  | junk _ x h => exact .junk _ x h
  | int _ k n => exact .int _ k n
  | bool _ b => exact .bool _ b
  | str _ b s h => exact .str _ b s h
  | nilp => exact .nilp _
  | lptr _ d v off b h => exact .junk _ _ rfl
  | gptr _ id off b h => exact .gptr _ id off b h
  | ref _ l b o xs him _ ih =>
    simp only [Abs.nol, nols_eq]
    refine .ref _ _ b o xs (fun i hi => him i (by simpa using hi)) (fun i hi => ?_)
    simp only [List.getElem_map]
    exact ih i (by simpa using hi)
  | listNil =>
    simp only [Abs.nol, nols_eq, List.map_nil]
    exact .listNil _
  | listE _ c a cap hc =>
    simp only [Abs.nol, nols_eq, List.map_nil]
    exact .listE _ c a cap hc
  | sl _ kd id off n cap b hc h => exact .sl _ kd id off n cap b hc h
  | list _ c l b o sz n cap xs hn hcap hc hsz him _ ih =>
    simp only [Abs.nol, nols_eq]
    refine .list _ _ _ b o sz n cap xs (by simpa using hn) hcap hc ?_ him ?_
    · intro e he
      obtain ⟨e', he', rfl⟩ := List.mem_map.1 he
      rw [cells_nol, List.length_map]; exact hsz e' he'
    · intro i hi j hj
      have hi' : i < l.length := by simpa using hi
      have hj' : j < l[i].cells.length := by simpa [cells_nol] using hj
      have := ih i hi' j hj' (lb' := noLB)
      simpa [cells_nol] using this
  | agg _ l a hs h1 _ ih =>
    simp only [Abs.nol, nols_eq]
    refine .agg _ _ a (by simpa using hs) h1 fun i hi hi' => ?_
    simp only [List.getElem_map]
    exact ih i (by simpa using hi) hi'
  | tup _ l a hs _ ih =>
    simp only [Abs.nol, nols_eq]
    refine .tup _ _ a (by simpa using hs) fun i hi hi' => ?_
    simp only [List.getElem_map]
    exact ih i (by simpa using hi) hi'
  | fn _ f f' l m' a b hs ht hy _ _ ih1 ih2 =>
    simp only [Abs.nol, nols_eq]
    refine .fn _ f f' _ _ a b (by simpa using hs) (by simpa using ht) hy (fun i hi hi' => ?_) (fun i hi hi' => ?_)
    · simp only [List.getElem_map]
      exact ih1 i (by simpa using hi) hi'
    · simp only [List.getElem_map]
      exact ih2 i (by simpa using hi) hi'
  | nilfn => exact .nilfn _
  | iface _ t v x _ ih => exact .iface _ t _ x ih
  | nilif => exact .nilif _
  | map _ id b h => exact .map _ id b h
  | nilmap => exact .nilmap _

theorem VR.isOne {g : Gh} {lb : LB} {v : AV} {x : Value} (h : VR g lb v x) (h1 : v.one = true) : x.oneCell' = true := by
  cases h <;> simp_all [AV.one, Value.oneCell']

/-- The cells of a value that a variable may hold. -/
theorem VR.cells {g : Gh} {lb : LB} {v : AV} {x : Value} (h : VR g lb v x) (hn : v.cells ≠ []) :
    x.cells.size = v.cells.length ∧ (∀ i (hi : i < v.cells.length) (hi' : i < x.cells.size), VR g lb v.cells[i] x.cells[i]) ∧ (∀ i (hi' : i < x.cells.size), x.cells[i].oneCell' = true) := by
  cases h with
  | undef => exact absurd rfl hn
  | tup _ l a hs hv => exact absurd rfl hn
  | agg _ l a hs h1 hv => exact ⟨hs, fun i hi hi' => hv i hi hi', h1⟩
  | junk _ x h =>
    have hx : x.cells = #[x] := by cases x <;> simp_all [Value.cells, Value.oneCell']
    refine ⟨by simp [hx, AV.cells], fun i hi hi' => ?_, fun i hi' => ?_⟩
    · have : i = 0 := by simpa [AV.cells] using hi
      subst this
      simp only [hx, AV.cells]
      exact .junk _ x h
    · have : i = 0 := by simpa [hx] using hi'
      subst this
      simpa [hx] using h
  | _ =>
    refine ⟨by simp [Value.cells, AV.cells], fun i hi hi' => ?_, fun i hi' => ?_⟩
    · have : i = 0 := by simpa [AV.cells] using hi
      subst this
      simp only [Value.cells, AV.cells, List.getElem_cons_zero, List.getElem_toArray]
      constructor <;> assumption
    · have : i = 0 := by simpa [Value.cells] using hi'
      subst this
      simp [Value.cells, Value.oneCell']

end Go.Abs
