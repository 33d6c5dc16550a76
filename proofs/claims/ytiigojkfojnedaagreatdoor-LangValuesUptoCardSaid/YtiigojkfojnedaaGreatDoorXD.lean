/- The relation between the executor's state and the machine's, and what each step of it keeps. -/
import Derived.Test.YtiigojkfojnedaaGreatDoorXC
set_option linter.unusedVariables false
set_option linter.unusedSimpArgs false
namespace Go.Abs
open Go.RowKit (Below)

inductive Own
  | m (id : Nat)
  | l (d : Nat)

abbrev OW := Nat → Option Own
abbrev LCR := Nat → AC → Code → Prop

/-- A block of cells, or a text's iterator, of one's own. -/
def CellsR (g : Gh) (lb : LB) (own : OW) (w : World) (nm : Own) (b : Nat) (l : List AV) : Prop :=
  own b = some nm ∧ (∀ o, g.im b o = none) ∧ ∃ (a : Array Value) (e : TypeId), w.heap[b]? = some (.cells a e (0, 0)) ∧ a.size = l.length ∧
    (∀ i (h : i < l.length) (h' : i < a.size), VR g lb l[i] a[i]) ∧ ∀ i (h' : i < a.size), a[i].oneCell' = true

def LSR : LS → Loop → Prop
  | .ready, L => L.state = .ready ∧ L.pending.isNone
  | .busy, L => L.state = .busy
  | .done none, L => L.state = .done ∧ (match L.pending with | some .ret => True | _ => False)
  | .done (some i), L => L.state = .done ∧ (match L.pending with | some (.exit j) => j = i | _ => False)

def BlkR (g : Gh) (own : OW) (LC : LCR) (w : World) (id : Nat) : Blk → Prop
  | .cells l => ∃ b, g.mb id = some b ∧ CellsR g noLB own w (.m id) b l
  | .iter _ _ => False
  | .dead => True
  | .bld T e s => ∃ b, g.mb id = some b ∧ own b = some (.m id) ∧ (∀ o, g.im b o = none) ∧ ∃ (p v : Value), w.heap[b]? = some (.cells #[p, v] T (0, 0)) ∧
      (p = .pointer none ∨ p = .pointer (some ⟨b, 0, none⟩)) ∧ (∀ x ∈ s, x < 256) ∧
      ((v = .slice none 0 0 ∧ s = []) ∨ ∃ (r cap : Nat) (cur : Array Value), v = .slice (some ⟨r, 0, none⟩) s.length cap ∧ own r = some (.m id) ∧ r ≠ b ∧ (∀ o, g.im r o = none) ∧ s ≠ [] ∧
        w.heap[r]? = some (.cells cur e (0, 0)) ∧ cur.size = cap ∧ s.length ≤ cap ∧ cap ≤ maxLen ∧ ∀ i (h : i < s.length), cur[i]? = some (.int .u8 s[i]))
  | .map es => ∃ b, g.mb id = some b ∧ own b = some (.m id) ∧ (∀ o, g.im b o = none) ∧ ∃ (a : Array MapEntry) (clock : Nat), w.heap[b]? = some (.map a clock) ∧ a.size = es.length ∧
      (∀ i (h : i < es.length) (h' : i < a.size), VR g noLB es[i].1 a[i].key ∧ VR g noLB es[i].2 a[i].val) ∧ ∀ p ∈ es, plain p.1 = true ∧ plain p.2 = true
  | .front n sz e => 0 < sz ∧ ∃ b cap, g.rows id n = some (b, cap) ∧ n ≤ cap ∧ own b = some (.m id) ∧ (∃ a : Array Value, w.heap[b]? = some (.cells a e (0, 0)) ∧ a.size = cap * sz) ∧
      (∀ o, n * sz ≤ o → g.im b o = none) ∧ (∀ m x, g.rows id m = some x → m ≤ n) ∧ g.mb id = none
  | .loop env ps asg body st => ∃ b, g.mb id = some b ∧ own b = some (.m id) ∧ (∀ o, g.im b o = none) ∧ ∃ (L : Loop) (N : Nat), w.heap[b]? = some (.loop L) ∧
      (∀ t, VR g noLB (getE env t) (L.tmps.getD t undef)) ∧ L.params = ps.toArray ∧ N ≤ L.tmps.size ∧ (∀ p ∈ ps, p < N) ∧ LC N asg L.assign ∧ LC N body L.body ∧ LSR st L ∧
      ∀ t, ∃ (g0 : Gh) (x0 : Value), (∀ i b, g0.mb i = some b → i < id) ∧ (∀ i m y, g0.rows i m = some y → i < id) ∧ VR g0 noLB (getE env t) x0

structure MemR (g : Gh) (own : OW) (LC : LCR) (mem : Mem) (w : World) : Prop where
  dom : ∀ id b, g.mb id = some b → id < mem.blks.length
  rdom : ∀ t n x, g.rows t n = some x → t < mem.blks.length
  blk : ∀ id blk, mem.blks[id]? = some blk → BlkR g own LC w id blk
  im : ∀ b o x, g.im b o = some x → w.cell? ⟨b, o, none⟩ = some x

structure LocR (g : Gh) (lb : LB) (own : OW) (loc : Nat → Option (Nat × Blk)) (w : World) : Prop where
  cells : ∀ d v l, loc d = some (v, .cells l) → ∃ b, lb d v = some b ∧ CellsR g lb own w (.l d) b l
  iter : ∀ d v s pos, loc d = some (v, .iter s pos) → ∃ b, lb d v = some b ∧ own b = some (.l d) ∧ (∀ o, g.im b o = none) ∧
      ∃ bs : ByteArray, w.heap[b]? = some (.stringIter bs pos) ∧ bs.data.toList.map UInt8.toNat = s
  ver : ∀ d v b, lb d v = some b → ∃ v' blk, loc d = some (v', blk) ∧ v ≤ v'

structure OwnR (base : Nat) (own : OW) (w : World) : Prop where
  ge : ∀ b o, own b = some o → base ≤ b ∧ b < w.heap.size
  base : base ≤ w.heap.size

/-- From one moment to a later one. -/
structure Steps' (g : Gh) (own : OW) (w : World) (g' : Gh) (own' : OW) (w' : World) : Prop where
  sub : g.sub g'
  size : w.heap.size ≤ w'.heap.size
  os : w'.os = w.os
  tape : w'.tape = w.tape
  output : w'.output = w.output
  keep : ∀ b, b < w.heap.size → own b = none → w'.heap[b]? = w.heap[b]?
  unown : ∀ b, b < w.heap.size → own b = none → own' b = none
  im : ∀ b, b < w.heap.size → own b = none → ∀ o, g'.im b o = g.im b o

theorem Steps'.refl (g : Gh) (own : OW) (w : World) : Steps' g own w g own w :=
  ⟨g.sub_refl, Nat.le_refl _, rfl, rfl, rfl, fun _ _ _ => rfl, fun _ _ h => h, fun _ _ _ _ => rfl⟩

theorem Steps'.trans {g1 g2 g3 : Gh} {o1 o2 o3 : OW} {w1 w2 w3 : World} (h : Steps' g1 o1 w1 g2 o2 w2) (k : Steps' g2 o2 w2 g3 o3 w3) : Steps' g1 o1 w1 g3 o3 w3 := {
  sub := Gh.sub_trans h.sub k.sub
  size := Nat.le_trans h.size k.size
  os := k.os.trans h.os
  tape := k.tape.trans h.tape
  output := k.output.trans h.output
  keep b hb ho := (k.keep b (Nat.lt_of_lt_of_le hb h.size) (h.unown b hb ho)).trans (h.keep b hb ho)
  unown b hb ho := k.unown b (Nat.lt_of_lt_of_le hb h.size) (h.unown b hb ho)
  im b hb ho o := (k.im b (Nat.lt_of_lt_of_le hb h.size) (h.unown b hb ho) o).trans (h.im b hb ho o) }


theorem Steps'.below {base : Nat} {g g' : Gh} {own own' : OW} {w w' : World} (h : Steps' g own w g' own' w') (ho : OwnR base own w) : Below base w w' :=
  ⟨h.os, h.tape, h.output, h.size, fun k hk => h.keep k (Nat.lt_of_lt_of_le hk ho.base) (by
    cases hx : own k with
    | none => rfl
    | some o => have := (ho.ge k o hx).1; omega)⟩

theorem Steps'.ownR {base : Nat} {g g' : Gh} {own own' : OW} {w w' : World} (h : Steps' g own w g' own' w') (ho : OwnR base own w)
    (hn : ∀ b o, own' b = some o → b < w'.heap.size) : OwnR base own' w' := {
  ge b o hb := by
    refine ⟨?_, hn b o hb⟩
    rcases Nat.lt_or_ge b w.heap.size with hlt | hge
    · cases hx : own b with
      | none => rw [h.unown b hlt hx] at hb; cases hb
      | some o' => exact (ho.ge b o' hx).1
    · exact Nat.le_trans ho.base hge
  base := Nat.le_trans ho.base h.size }


/-! ### worlds that keep what is told of a block -/

theorem cell?_of_heap {w w' : World} {b o : Nat} (h : w'.heap[b]? = w.heap[b]?) : w'.cell? ⟨b, o, none⟩ = w.cell? ⟨b, o, none⟩ := by simp [World.cell?, h]

theorem CellsR.keep {g g' : Gh} {lb lb' : LB} {own own' : OW} {w w' : World} {nm : Own} {b : Nat} {l : List AV} (h : CellsR g lb own w nm b l)
    (hg : g.sub g') (hl : ∀ d i b, lb d i = some b → lb' d i = some b) (ho : own' b = own b) (hw : w'.heap[b]? = w.heap[b]?) (hi : ∀ o, g'.im b o = g.im b o) : CellsR g' lb' own' w' nm b l := by
  obtain ⟨h1, h2, a, e, h3, h4, h5, h6⟩ := h
  exact ⟨ho.trans h1, fun o => (hi o).trans (h2 o), a, e, hw.trans h3, h4, fun i hi hi' => (h5 i hi hi').mono hg hl, h6⟩

theorem BlkR.keep {g g' : Gh} {own own' : OW} {LC : LCR} {w w' : World} {id : Nat} {blk : Blk} (h : BlkR g own LC w id blk) (hg : g.sub g')
    (hb : ∀ b, own b = some (.m id) → own' b = own b ∧ w'.heap[b]? = w.heap[b]? ∧ ∀ o, g'.im b o = g.im b o)
    (hr : ∀ n, g.rows id n = none → g'.rows id n = none) (hm : g.mb id = none → g'.mb id = none) : BlkR g' own' LC w' id blk := by
  cases blk with
  | cells l =>
    obtain ⟨b, h1, h2⟩ := h
    obtain ⟨k1, k2, k3⟩ := hb b h2.1
    exact ⟨b, hg.2.1 _ _ h1, h2.keep hg (fun _ _ _ h => h) k1 k2 k3⟩
  | iter s pos => exact h
  | dead => trivial
  | bld T e s =>
    obtain ⟨b, h1, h2, h3, p, v, h4, h5, h6, h7⟩ := h
    obtain ⟨k1, k2, k3⟩ := hb b h2
    refine ⟨b, hg.2.1 _ _ h1, k1.trans h2, fun o => (k3 o).trans (h3 o), p, v, k2.trans h4, h5, h6, ?_⟩
    rcases h7 with h7 | ⟨r, cap, cur, q1, q2, q3, q4, q5, q6, q7⟩
    · exact .inl h7
    · obtain ⟨l1, l2, l3⟩ := hb r q2
      exact .inr ⟨r, cap, cur, q1, l1.trans q2, q3, fun o => (l3 o).trans (q4 o), q5, l2.trans q6, q7⟩
  | map es =>
    obtain ⟨b, h1, h2, h3, a, c, h4, h5, h6, h7⟩ := h
    obtain ⟨k1, k2, k3⟩ := hb b h2
    exact ⟨b, hg.2.1 _ _ h1, k1.trans h2, fun o => (k3 o).trans (h3 o), a, c, k2.trans h4, h5, fun i hi hi' => ⟨(h6 i hi hi').1.sub hg, (h6 i hi hi').2.sub hg⟩, h7⟩
  | front n sz e =>
    obtain ⟨h0, b, cap, h1, h2, h3, ⟨a, h4, h5⟩, h6, h7, h8⟩ := h
    obtain ⟨k1, k2, k3⟩ := hb b h3
    refine ⟨h0, b, cap, hg.2.2 _ _ _ h1, h2, k1.trans h3, ⟨a, k2.trans h4, h5⟩, fun o ho => (k3 o).trans (h6 o ho), fun m x hx => ?_, hm h8⟩
    cases hy : g.rows id m with
    | none => rw [hr m hy] at hx; cases hx
    | some y => exact h7 m y hy
  | loop env ps asg body st =>
    obtain ⟨b, h1, h2, h3, L, N, h4, h5, h6⟩ := h
    obtain ⟨k1, k2, k3⟩ := hb b h2
    exact ⟨b, hg.2.1 _ _ h1, k1.trans h2, fun o => (k3 o).trans (h3 o), L, N, k2.trans h4, fun t => (h5 t).sub hg, h6⟩

/-- Reading. -/
theorem rd_spec {g : Gh} {lb : LB} {own : OW} {LC : LCR} {loc : Nat → Option (Nat × Blk)} {mem : Mem} {w : World} (hm : MemR g own LC mem w) (hl : LocR g lb own loc w)
    {p : AV} {x : Value} {n : Nat} {cs : List AV} (hp : VR g lb p x) (hr : rd loc mem p n = some cs) :
    ∃ (b o : Nat) (vs : List Value), x = .pointer (some ⟨b, o, none⟩) ∧ vs.length = n ∧ cs.length = n ∧ w.rangeAt b o vs ∧
      (∀ i (h : i < cs.length) (h' : i < vs.length), VR g lb cs[i] vs[i]) ∧ ∀ v ∈ vs, v.oneCell' = true := by
  have key : ∀ (b off : Nat) (l : List AV) (lb' : LB) (nm : Own), CellsR g lb' own w nm b l → (∀ d i b, lb' d i = some b → lb d i = some b) → off + n ≤ l.length → cs = (l.drop off).take n →
      ∃ vs : List Value, vs.length = n ∧ cs.length = n ∧ w.rangeAt b off vs ∧ (∀ i (h : i < cs.length) (h' : i < vs.length), VR g lb cs[i] vs[i]) ∧ ∀ v ∈ vs, v.oneCell' = true := by
    rintro b off l lb' nm ⟨_, _, a, e, h3, h4, h5, h6⟩ hlb hle rfl
    refine ⟨(a.toList.drop off).take n, by simp; omega, by simp; omega, ?_, ?_, ?_⟩
    · intro j v hv
      rw [List.getElem?_take] at hv
      split at hv
      · rw [List.getElem?_drop] at hv
        simpa [World.cell?, h3] using hv
      · cases hv
    · intro i h h'
      simp only [List.getElem_take, List.getElem_drop, Array.getElem_toList]
      have hi : i < n := by simp at h; omega
      exact (h5 (off + i) (by omega) (by omega)).mono g.sub_refl hlb
    · intro v hv
      have := List.mem_of_mem_drop (List.mem_of_mem_take hv)
      obtain ⟨i, hi, rfl⟩ := List.mem_iff_getElem.1 this
      simpa using h6 i (by simpa using hi)
  cases p with
  | lptr d v off =>
    cases hp with
    | lptr _ _ _ _ b hb =>
    simp only [rd] at hr
    split at hr
    · rename_i v' l hd
      split at hr
      · rename_i hc
        obtain ⟨rfl, hle⟩ := hc
        obtain ⟨b', hb', hcr⟩ := hl.cells d _ l hd
        rw [hb] at hb'; cases hb'
        obtain ⟨vs, k⟩ := key b off l lb (.l d) hcr (fun _ _ _ h => h) hle (by simpa using hr.symm)
        exact ⟨b, off, vs, rfl, k⟩
      · cases hr
    · cases hr
  | gptr id off =>
    cases hp with
    | gptr _ _ _ b hb =>
    simp only [rd] at hr
    split at hr
    · rename_i l hd
      split at hr
      · rename_i hle
        obtain ⟨b', hb', hcr⟩ := hm.blk id _ hd
        rw [hb] at hb'; cases hb'
        obtain ⟨vs, k⟩ := key b off l noLB (.m id) hcr (fun _ _ _ h => by cases h) hle (by simpa using hr.symm)
        exact ⟨b, off, vs, rfl, k⟩
      · cases hr
    · cases hr
  | ref l =>
    cases hp with
    | ref _ _ b o xs him hv =>
    simp only [rd] at hr
    split at hr
    · rename_i hle
      simp only [Option.some.injEq] at hr
      subst hr
      refine ⟨b, o, (List.range n).map xs, rfl, by simp, by simp; omega, ?_, ?_, ?_⟩
      · intro j v hv'
        simp only [List.getElem?_map, Option.map_eq_some_iff] at hv'
        obtain ⟨i, hi, rfl⟩ := hv'
        have hj : j < n := by
          rcases Nat.lt_or_ge j n with h | h
          · exact h
          · rw [List.getElem?_eq_none (by simpa using h)] at hi; cases hi
        rw [List.getElem?_range hj] at hi
        cases hi
        exact hm.im _ _ _ (him j (by omega)).1
      · intro i h h'
        simp only [List.getElem_take, List.getElem_map, List.getElem_range]
        exact (hv i (by simp at h; omega)).mono g.sub_refl fun _ _ _ h => by cases h
      · intro v hv'
        obtain ⟨i, hi, rfl⟩ := List.mem_map.1 hv'
        exact (him i (by have := List.mem_range.1 hi; omega)).2
    · cases hr
  | _ => simp [rd] at hr

end Go.Abs
