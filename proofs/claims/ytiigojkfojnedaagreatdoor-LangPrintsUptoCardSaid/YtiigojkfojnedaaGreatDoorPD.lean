/- A text of this proof. -/
import Derived.Test.YtiigojkfojnedaaGreatDoorPA
set_option linter.unusedVariables false
set_option linter.unusedSimpArgs false
namespace Go.Abs
open Go.RowKit (Below)
inductive Own
 | m (id : Nat)
 | l (d : Nat)
abbrev OW := Nat -> Option Own
abbrev LCR := Nat -> AC -> Code -> Prop
def CellsR (g : Gh) (lb : LB) (own : OW) (w : World) (nm : Own) (b : Nat) (l : List AV) : Prop :=
 own b = some nm /\ (∀ o,g.im b o = none) /\ ∃ (a : Array Value) (e : TypeId),w.heap[b]? = some (.cells a e (0,0)) /\ a.size = l.length ∧
  (∀ i (h : i < l.length) (h' : i < a.size),VR g lb l[i] a[i]) /\ ∀ i (h' : i < a.size),a[i].oneCell' = true
def LSR : LS -> Loop -> Prop
 | .ready,L => L.state = .ready /\ L.pending.isNone
 | .busy,L => L.state = .busy
 | .done none,L => L.state = .done /\ (match L.pending with | some .ret => True | _ => False)
 | .done (some i),L => L.state = .done /\ (match L.pending with | some (.exit j) => j = i | _ => False)
def BlkR (g : Gh) (own : OW) (LC : LCR) (w : World) (id : Nat) : Blk -> Prop
 | .cells l => ∃ b,g.mb id = some b /\ CellsR g noLB own w (.m id) b l
 | .iter _ _ => False
 | .dead => True
 | .bld T e s => ∃ b,g.mb id = some b /\ own b = some (.m id) /\ (∀ o,g.im b o = none) /\ ∃ (p v : Value),w.heap[b]? = some (.cells #[p,v] T (0,0)) ∧
   (p = .pointer none \/ p = .pointer (some ⟨b,0,none⟩)) /\ (∀ x ∈ s,x < 256) ∧
   ((v = .slice none 0 0 /\ s = []) \/ ∃ (r cap : Nat) (cur : Array Value),v = .slice (some ⟨r,0,none⟩) s.length cap /\ own r = some (.m id) /\ r ≠ b /\ (∀ o,g.im r o = none) /\ s ≠ [] ∧
    w.heap[r]? = some (.cells cur e (0,0)) /\ cur.size = cap /\ s.length <= cap /\ cap <= maxLen /\ ∀ i (h : i < s.length),cur[i]? = some (.int .u8 s[i]))
 | .map es => ∃ b,g.mb id = some b /\ own b = some (.m id) /\ (∀ o,g.im b o = none) /\ ∃ (a : Array MapEntry) (clock : Nat),w.heap[b]? = some (.map a clock) /\ a.size = es.length ∧
   (∀ i (h : i < es.length) (h' : i < a.size),VR g noLB es[i].1 a[i].key /\ VR g noLB es[i].2 a[i].val) /\ ∀ p ∈ es,plain p.1 = true /\ plain p.2 = true
 | .front n sz e => 0 < sz /\ ∃ b cap,g.rows id n = some (b,cap) /\ n <= cap /\ own b = some (.m id) /\ (∃ a : Array Value,w.heap[b]? = some (.cells a e (0,0)) /\ a.size = cap * sz) ∧
   (∀ o,n * sz <= o -> g.im b o = none) /\ (∀ m x,g.rows id m = some x -> m <= n) /\ g.mb id = none
 | .loop env ps asg body st => ∃ b,g.mb id = some b /\ own b = some (.m id) /\ (∀ o,g.im b o = none) /\ ∃ (L : Loop) (N : Nat),w.heap[b]? = some (.loop L) ∧
   (∀ t,VR g noLB (getE env t) (L.tmps.getD t undef)) /\ L.params = ps.toArray /\ N <= L.tmps.size /\ (∀ p ∈ ps,p < N) /\ LC N asg L.assign /\ LC N body L.body /\ LSR st L ∧
   ∀ t,∃ (g0 : Gh) (x0 : Value),(∀ i b,g0.mb i = some b -> i < id) /\ (∀ i m y,g0.rows i m = some y -> i < id) /\ VR g0 noLB (getE env t) x0
structure MemR (g : Gh) (own : OW) (LC : LCR) (mem : Mem) (w : World) : Prop where
 dom : ∀ id b,g.mb id = some b -> id < mem.blks.length
 rdom : ∀ t n x,g.rows t n = some x -> t < mem.blks.length
 blk : ∀ id blk,mem.blks[id]? = some blk -> BlkR g own LC w id blk
 im : ∀ b o x,g.im b o = some x -> w.cell? ⟨b,o,none⟩ = some x
structure LocR (g : Gh) (lb : LB) (own : OW) (loc : Nat -> Option (Nat × Blk)) (w : World) : Prop where
 cells : ∀ d v l,loc d = some (v,.cells l) -> ∃ b,lb d v = some b /\ CellsR g lb own w (.l d) b l
 iter : ∀ d v s pos,loc d = some (v,.iter s pos) -> ∃ b,lb d v = some b /\ own b = some (.l d) /\ (∀ o,g.im b o = none) ∧
   ∃ bs : ByteArray,w.heap[b]? = some (.stringIter bs pos) /\ bs.data.toList.map UInt8.toNat = s
 ver : ∀ d v b,lb d v = some b -> ∃ v' blk,loc d = some (v',blk) /\ v <= v'
structure OwnR (base : Nat) (own : OW) (w : World) : Prop where
 ge : ∀ b o,own b = some o -> base <= b /\ b < w.heap.size
 base : base <= w.heap.size
structure Steps' (g : Gh) (own : OW) (w : World) (g' : Gh) (own' : OW) (w' : World) : Prop where
 sub : g.sub g'
 size : w.heap.size <= w'.heap.size
 os : w'.os = w.os
 tape : w'.tape = w.tape
 output : w'.output = w.output
 keep : ∀ b,b < w.heap.size -> own b = none -> w'.heap[b]? = w.heap[b]?
 unown : ∀ b,b < w.heap.size -> own b = none -> own' b = none
 im : ∀ b,b < w.heap.size -> own b = none -> ∀ o,g'.im b o = g.im b o
theorem Steps'.refl (g : Gh) (own : OW) (w : World) : Steps' g own w g own w :=
 ⟨g.sub_refl,Nat.le_refl _,rfl,rfl,rfl,fun _ _ _ => rfl,fun _ _ h => h,fun _ _ _ _ => rfl⟩
theorem Steps'.trans {g1 g2 g3 : Gh} {o1 o2 o3 : OW} {w1 w2 w3 : World} (h : Steps' g1 o1 w1 g2 o2 w2) (k : Steps' g2 o2 w2 g3 o3 w3) : Steps' g1 o1 w1 g3 o3 w3 := {
 sub := Gh.sub_trans h.sub k.sub
 size := Nat.le_trans h.size k.size
 os := k.os.trans h.os
 tape := k.tape.trans h.tape
 output := k.output.trans h.output
 keep b hb ho := (k.keep b (Nat.lt_of_lt_of_le hb h.size) (h.unown b hb ho)).trans (h.keep b hb ho)
 unown b hb ho := k.unown b (Nat.lt_of_lt_of_le hb h.size) (h.unown b hb ho)
 im b hb ho o := (k.im b (Nat.lt_of_lt_of_le hb h.size) (h.unown b hb ho) o).trans (h.im b hb ho o) }
theorem Steps'.below {base : Nat} {g g' : Gh} {own own' : OW} {w w' : World} (h : Steps' g own w g' own' w') (ho : OwnR base own w) : Below base w w' :=
 ⟨h.os,h.tape,h.output,h.size,fun k hk => h.keep k (Nat.lt_of_lt_of_le hk ho.base) (by
  cases hx : own k with
  | none => rfl
  | some o => have := (ho.ge k o hx).1; omega)⟩
theorem cell?_of_heap {w w' : World} {b o : Nat} (h : w'.heap[b]? = w.heap[b]?) : w'.cell? ⟨b,o,none⟩ = w.cell? ⟨b,o,none⟩ := by simp [World.cell?,h]
theorem CellsR.keep {g g' : Gh} {lb lb' : LB} {own own' : OW} {w w' : World} {nm : Own} {b : Nat} {l : List AV} (h : CellsR g lb own w nm b l)
  (hg : g.sub g') (hl : ∀ d i b,lb d i = some b -> lb' d i = some b) (ho : own' b = own b) (hw : w'.heap[b]? = w.heap[b]?) (hi : ∀ o,g'.im b o = g.im b o) : CellsR g' lb' own' w' nm b l := by
 obtain ⟨h1,h2,a,e,h3,h4,h5,h6⟩ := h
 exact ⟨ho.trans h1,fun o => (hi o).trans (h2 o),a,e,hw.trans h3,h4,fun i hi hi' => (h5 i hi hi').mono hg hl,h6⟩
theorem BlkR.keep {g g' : Gh} {own own' : OW} {LC : LCR} {w w' : World} {id : Nat} {blk : Blk} (h : BlkR g own LC w id blk) (hg : g.sub g')
  (hb : ∀ b,own b = some (.m id) -> own' b = own b /\ w'.heap[b]? = w.heap[b]? /\ ∀ o,g'.im b o = g.im b o)
  (hr : ∀ n,g.rows id n = none -> g'.rows id n = none) (hm : g.mb id = none -> g'.mb id = none) : BlkR g' own' LC w' id blk := by
 cases blk with
 | cells l =>
  obtain ⟨b,h1,h2⟩ := h
  obtain ⟨k1,k2,k3⟩ := hb b h2.1
  exact ⟨b,hg.2.1 _ _ h1,h2.keep hg (fun _ _ _ h => h) k1 k2 k3⟩
 | iter s pos => exact h
 | dead => trivial
 | bld T e s =>
  obtain ⟨b,h1,h2,h3,p,v,h4,h5,h6,h7⟩ := h
  obtain ⟨k1,k2,k3⟩ := hb b h2
  refine ⟨b,hg.2.1 _ _ h1,k1.trans h2,fun o => (k3 o).trans (h3 o),p,v,k2.trans h4,h5,h6,?_⟩
  rcases h7 with h7 | ⟨r,cap,cur,q1,q2,q3,q4,q5,q6,q7⟩
  ·exact .inl h7
  ·obtain ⟨l1,l2,l3⟩ := hb r q2
   exact .inr ⟨r,cap,cur,q1,l1.trans q2,q3,fun o => (l3 o).trans (q4 o),q5,l2.trans q6,q7⟩
 | map es =>
  obtain ⟨b,h1,h2,h3,a,c,h4,h5,h6,h7⟩ := h
  obtain ⟨k1,k2,k3⟩ := hb b h2
  exact ⟨b,hg.2.1 _ _ h1,k1.trans h2,fun o => (k3 o).trans (h3 o),a,c,k2.trans h4,h5,fun i hi hi' => ⟨(h6 i hi hi').1.sub hg,(h6 i hi hi').2.sub hg⟩,h7⟩
 | front n sz e =>
  obtain ⟨h0,b,cap,h1,h2,h3,⟨a,h4,h5⟩,h6,h7,h8⟩ := h
  obtain ⟨k1,k2,k3⟩ := hb b h3
  refine ⟨h0,b,cap,hg.2.2 _ _ _ h1,h2,k1.trans h3,⟨a,k2.trans h4,h5⟩,fun o ho => (k3 o).trans (h6 o ho),fun m x hx => ?_,hm h8⟩
  cases hy : g.rows id m with
  | none => rw [hr m hy] at hx; cases hx
  | some y => exact h7 m y hy
 | loop env ps asg body st =>
  obtain ⟨b,h1,h2,h3,L,N,h4,h5,h6⟩ := h
  obtain ⟨k1,k2,k3⟩ := hb b h2
  exact ⟨b,hg.2.1 _ _ h1,k1.trans h2,fun o => (k3 o).trans (h3 o),L,N,k2.trans h4,fun t => (h5 t).sub hg,h6⟩
theorem rd_spec {g : Gh} {lb : LB} {own : OW} {LC : LCR} {loc : Nat -> Option (Nat × Blk)} {mem : Mem} {w : World} (hm : MemR g own LC mem w) (hl : LocR g lb own loc w)
  {p : AV} {x : Value} {n : Nat} {cs : List AV} (hp : VR g lb p x) (hr : rd loc mem p n = some cs) :
  ∃ (b o : Nat) (vs : List Value),x = .pointer (some ⟨b,o,none⟩) /\ vs.length = n /\ cs.length = n /\ w.rangeAt b o vs ∧
   (∀ i (h : i < cs.length) (h' : i < vs.length),VR g lb cs[i] vs[i]) /\ ∀ v ∈ vs,v.oneCell' = true := by
 have key : ∀ (b off : Nat) (l : List AV) (lb' : LB) (nm : Own),CellsR g lb' own w nm b l -> (∀ d i b,lb' d i = some b -> lb d i = some b) -> off + n <= l.length -> cs = (l.drop off).take n →
   ∃ vs : List Value,vs.length = n /\ cs.length = n /\ w.rangeAt b off vs /\ (∀ i (h : i < cs.length) (h' : i < vs.length),VR g lb cs[i] vs[i]) /\ ∀ v ∈ vs,v.oneCell' = true := by
  rintro b off l lb' nm ⟨_,_,a,e,h3,h4,h5,h6⟩ hlb hle rfl
  refine ⟨(a.toList.drop off).take n,by simp; omega,by simp; omega,?_,?_,?_⟩
  ·intro j v hv
   rw [List.getElem?_take] at hv
   split at hv
   ·rw [List.getElem?_drop] at hv
    simpa [World.cell?,h3] using hv
   ·cases hv
  ·intro i h h'
   simp only [List.getElem_take,List.getElem_drop,Array.getElem_toList]
   have hi : i < n := by simp at h; omega
   exact (h5 (off + i) (by omega) (by omega)).mono g.sub_refl hlb
  ·intro v hv
   have := List.mem_of_mem_drop (List.mem_of_mem_take hv)
   obtain ⟨i,hi,rfl⟩ := List.mem_iff_getElem.1 this
   simpa using h6 i (by simpa using hi)
 cases p with
 | lptr d v off =>
  cases hp with
  | lptr _ _ _ _ b hb =>
  simp only [rd] at hr
  split at hr
  ·rename_i v' l hd
   split at hr
   ·rename_i hc
    obtain ⟨rfl,hle⟩ := hc
    obtain ⟨b',hb',hcr⟩ := hl.cells d _ l hd
    rw [hb] at hb'; cases hb'
    obtain ⟨vs,k⟩ := key b off l lb (.l d) hcr (fun _ _ _ h => h) hle (by simpa using hr.symm)
    exact ⟨b,off,vs,rfl,k⟩
   ·cases hr
  ·cases hr
 | gptr id off =>
  cases hp with
  | gptr _ _ _ b hb =>
  simp only [rd] at hr
  split at hr
  ·rename_i l hd
   split at hr
   ·rename_i hle
    obtain ⟨b',hb',hcr⟩ := hm.blk id _ hd
    rw [hb] at hb'; cases hb'
    obtain ⟨vs,k⟩ := key b off l noLB (.m id) hcr (fun _ _ _ h => by cases h) hle (by simpa using hr.symm)
    exact ⟨b,off,vs,rfl,k⟩
   ·cases hr
  ·cases hr
 | ref l =>
  cases hp with
  | ref _ _ b o xs him hv =>
  simp only [rd] at hr
  split at hr
  ·rename_i hle
   simp only [Option.some.injEq] at hr
   subst hr
   refine ⟨b,o,(List.range n).map xs,rfl,by simp,by simp; omega,?_,?_,?_⟩
   ·intro j v hv'
    simp only [List.getElem?_map,Option.map_eq_some_iff] at hv'
    obtain ⟨i,hi,rfl⟩ := hv'
    have hj : j < n := by
     rcases Nat.lt_or_ge j n with h | h
     ·exact h
     ·rw [List.getElem?_eq_none (by simpa using h)] at hi; cases hi
    rw [List.getElem?_range hj] at hi
    cases hi
    exact hm.im _ _ _ (him j (by omega)).1
   ·intro i h h'
    simp only [List.getElem_take,List.getElem_map,List.getElem_range]
    exact (hv i (by simp at h; omega)).mono g.sub_refl fun _ _ _ h => by cases h
   ·intro v hv'
    obtain ⟨i,hi,rfl⟩ := List.mem_map.1 hv'
    exact (him i (by have := List.mem_range.1 hi; omega)).2
  ·cases hr
 | _ => simp [rd] at hr
end Go.Abs
namespace Go.Abs
def updF (loc : Nat -> Option (Nat × Blk)) : Upd -> Nat -> Option (Nat × Blk)
 | none => loc
 | some (d,v,b) => fun d' => if d = d' then some (v,b) else loc d'
theorem lget_setU (loc : Loc) (u : Upd) : lget (setU loc u) = updF (lget loc) u := by
 funext d'
 cases u with
 | none => rfl
 | some x => obtain ⟨d,v,b⟩ := x; simp [setU,updF,lget_lset]
def Post (base : Nat) (LC : LCR) (g : Gh) (lb : LB) (own : OW) (loc : Nat -> Option (Nat × Blk)) (w : World) (v : AV) (u : Upd) (m' : Mem) (x : Value) (w' : World) : Prop :=
 ∃ (g' : Gh) (lb' : LB) (own' : OW),Steps' g own w g' own' w' /\ (∀ d i b,lb d i = some b -> lb' d i = some b) /\ VR g' lb' v x /\ MemR g' own' LC m' w' ∧
  LocR g' lb' own' (updF loc u) w' /\ OwnR base own' w'
section
variable {base : Nat} {LC : LCR} {g g' : Gh} {lb lb' : LB} {own own' : OW} {loc : Nat -> Option (Nat × Blk)} {mem : Mem} {w w' : World}
theorem Post.pure {v : AV} {x : Value} (hm : MemR g own LC mem w) (hl : LocR g lb own loc w) (ho : OwnR base own w) (h : VR g lb v x) : Post base LC g lb own loc w v none mem x w :=
 ⟨g,lb,own,.refl g own w,fun _ _ _ h => h,h,hm,hl,ho⟩
theorem MemR.keep (h : MemR g own LC mem w) (hg : g.sub g') (hdom : ∀ id,g.mb id = none -> g'.mb id = none) (hrows : ∀ t n,g.rows t n = none -> g'.rows t n = none)
  (hb : ∀ id b,own b = some (.m id) -> own' b = own b /\ w'.heap[b]? = w.heap[b]? /\ ∀ o,g'.im b o = g.im b o)
  (him : ∀ b o x,g'.im b o = some x -> w'.cell? ⟨b,o,none⟩ = some x) : MemR g' own' LC mem w' := {
 dom id b hb' := by
  cases hx : g.mb id with
  | none => rw [hdom id hx] at hb'; cases hb'
  | some c => exact h.dom id c hx
 rdom t n x hx := by
  cases hy : g.rows t n with
  | none => rw [hrows t n hy] at hx; cases hx
  | some y => exact h.rdom t n y hy
 blk id blk hid := (h.blk id blk hid).keep hg (hb id) (hrows id) (hdom id)
 im := him }
theorem LocR.keep (h : LocR g lb own loc w) (hg : g.sub g')
  (hb : ∀ d b,own b = some (.l d) -> own' b = own b /\ w'.heap[b]? = w.heap[b]? /\ ∀ o,g'.im b o = g.im b o) : LocR g' lb own' loc w' := {
 cells d v l hd := by
  obtain ⟨b,h1,h2⟩ := h.cells d v l hd
  obtain ⟨k1,k2,k3⟩ := hb d b h2.1
  exact ⟨b,h1,h2.keep hg (fun _ _ _ h => h) k1 k2 k3⟩
 iter d v s pos hd := by
  obtain ⟨b,h1,h2,h3,bs,h4,h5⟩ := h.iter d v s pos hd
  obtain ⟨k1,k2,k3⟩ := hb d b h2
  exact ⟨b,h1,k1.trans h2,fun o => (k3 o).trans (h3 o),bs,k2.trans h4,h5⟩
 ver := h.ver }
theorem heap_alloc_lt (w : World) (o : Obj) {b : Nat} (h : b < w.heap.size) : (w.alloc o).heap[b]? = w.heap[b]? := Go.RowKit.Below.heap_alloc w o b h
theorem heap_alloc_at (w : World) (o : Obj) : (w.alloc o).heap[w.heap.size]? = some o := by show (w.heap.push o)[w.heap.size]? = _; simp
theorem cell_lt {w : World} {b o : Nat} {x : Value} (h : w.cell? ⟨b,o,none⟩ = some x) : b < w.heap.size := by
 unfold World.cell? at h
 split at h
 ·rename_i heq; exact (Array.getElem?_eq_some_iff.1 heq).1
 ·cases h
theorem Post.drew {v : AV} {u : Upd} {m' : Mem} {x : Value} (h : Post base LC g lb own loc w.drew v u m' x w') : Post base LC g lb own loc w v u m' x w' := by
 obtain ⟨g',lb',own',hs,r⟩ := h
 exact ⟨g',lb',own',⟨hs.sub,hs.size,hs.os,hs.tape,hs.output,hs.keep,hs.unown,hs.im⟩,r⟩
theorem MemR.drew (h : MemR g own LC mem w) : MemR g own LC mem w.drew :=
 h.keep g.sub_refl (fun _ h => h) (fun _ _ h => h) (fun _ _ _ => ⟨rfl,rfl,fun _ => rfl⟩) h.im
theorem LocR.drew (h : LocR g lb own loc w) : LocR g lb own loc w.drew := h.keep g.sub_refl fun _ _ _ => ⟨rfl,rfl,fun _ => rfl⟩
theorem OwnR.drew (h : OwnR base own w) : OwnR base own w.drew := ⟨h.ge,h.base⟩
def ownNew (own : OW) (b : Nat) (o : Option Own) : OW := fun b' => if b' = b then o else own b'
theorem own_lt (ho : OwnR base own w) {b : Nat} {o : Own} (h : own b = some o) : b ≠ w.heap.size := by
 have := (ho.ge b o h).2; omega
theorem MemR.alloc (h : MemR g own LC mem w) (ho : OwnR base own w) (o : Obj) (nm : Option Own) : MemR g (ownNew own w.heap.size nm) LC mem (w.alloc o) :=
 h.keep g.sub_refl (fun _ h => h) (fun _ _ h => h)
  (fun id b hb => ⟨by simp [ownNew,own_lt ho hb],heap_alloc_lt w o (ho.ge b _ hb).2,fun _ => rfl⟩)
  (fun b o' x hx => by
   have hc := h.im b o' x hx
   rw [cell?_of_heap (heap_alloc_lt w o (cell_lt hc))]; exact hc)
theorem LocR.alloc (h : LocR g lb own loc w) (ho : OwnR base own w) (o : Obj) (nm : Option Own) : LocR g lb (ownNew own w.heap.size nm) loc (w.alloc o) :=
 h.keep g.sub_refl (fun d b hb => ⟨by simp [ownNew,own_lt ho hb],heap_alloc_lt w o (ho.ge b _ hb).2,fun _ => rfl⟩)
theorem Steps'.alloc (g : Gh) (own : OW) (w : World) (o : Obj) (nm : Option Own) : Steps' g own w g (ownNew own w.heap.size nm) (w.alloc o) := {
 sub := g.sub_refl
 size := by simp
 os := rfl
 tape := rfl
 output := rfl
 keep b hb _ := heap_alloc_lt w o hb
 unown b hb h := by simp only [ownNew]; rw [if_neg (by omega)]; exact h
 im _ _ _ _ := rfl }
theorem OwnR.alloc (h : OwnR base own w) (o : Obj) (nm : Option Own) : OwnR base (ownNew own w.heap.size nm) (w.alloc o) := {
 ge b o' hb := by
  simp only [ownNew] at hb
  split at hb
  ·rename_i hbe; subst hbe; exact ⟨h.base,by simp⟩
  ·have := h.ge b o' hb; exact ⟨this.1,by simp; omega⟩
 base := by have := h.base; simp; omega }
theorem im_new (h : MemR g own LC mem w) (o : Nat) : g.im w.heap.size o = none := by
 cases hx : g.im w.heap.size o with
 | none => rfl
 | some x => have := cell_lt (h.im _ _ _ hx); omega
def lbNew (lb : LB) (d v b : Nat) : LB := fun d' v' => if d' = d /\ v' = v then some b else lb d' v'
theorem newVer_lt (h : LocR g lb own loc w) {d v b : Nat} (hb : lb d v = some b) : v < newVer loc d := by
 obtain ⟨v',blk,h1,h2⟩ := h.ver d v b hb
 simp only [newVer,h1]; omega
theorem lbNew_sub (h : LocR g lb own loc w) (d b : Nat) : ∀ d' i b',lb d' i = some b' -> lbNew lb d (newVer loc d) b d' i = some b' := by
 intro d' i b' hb
 simp only [lbNew]
 rw [if_neg]
 ·exact hb
 ·rintro ⟨rfl,rfl⟩
  exact Nat.lt_irrefl _ (newVer_lt h hb)
theorem LocR.new (h : LocR g lb own loc w) (ho : OwnR base own w) (d : Nat) (o : Obj) (blk : Blk)
  (hc : ∀ l,blk = .cells l -> CellsR g (lbNew lb d (newVer loc d) w.heap.size) (ownNew own w.heap.size (some (.l d))) (w.alloc o) (.l d) w.heap.size l)
  (hi : ∀ s pos,blk = .iter s pos -> (∀ o,g.im w.heap.size o = none) /\ ∃ bs : ByteArray,o = .stringIter bs pos /\ bs.data.toList.map UInt8.toNat = s) :
  LocR g (lbNew lb d (newVer loc d) w.heap.size) (ownNew own w.heap.size (some (.l d))) (updF loc (some (d,newVer loc d,blk))) (w.alloc o) := by
 have h' := h.alloc ho o (some (.l d))
 have hs := lbNew_sub h d w.heap.size
 refine ⟨fun d' v l hd => ?_,fun d' v s pos hd => ?_,fun d' v b hb => ?_⟩
 ·simp only [updF] at hd
  split at hd
  ·rename_i hdd; subst hdd; cases hd
   exact ⟨w.heap.size,by simp [lbNew],hc l rfl⟩
  ·obtain ⟨b,h1,h2⟩ := h'.cells d' v l hd
   exact ⟨b,hs _ _ _ h1,h2.keep g.sub_refl hs rfl rfl fun _ => rfl⟩
 ·simp only [updF] at hd
  split at hd
  ·rename_i hdd; subst hdd; cases hd
   obtain ⟨k1,bs,rfl,k2⟩ := hi s pos rfl
   exact ⟨w.heap.size,by simp [lbNew],by simp [ownNew],k1,bs,heap_alloc_at w _,k2⟩
  ·obtain ⟨b,h1,r⟩ := h'.iter d' v s pos hd
   exact ⟨b,hs _ _ _ h1,r⟩
 ·simp only [lbNew] at hb
  split at hb
  ·rename_i hdd; obtain ⟨rfl,rfl⟩ := hdd
   exact ⟨_,blk,by simp [updF],Nat.le_refl _⟩
  ·by_cases hdd : d = d'
   ·subst hdd
    exact ⟨_,blk,by simp [updF],Nat.le_of_lt (newVer_lt h hb)⟩
   ·obtain ⟨v',blk',h1,h2⟩ := h.ver d' v b hb
    exact ⟨v',blk',by simp [updF,hdd,h1],h2⟩
theorem MemR.push {o' : OW} (h : MemR g own LC mem w) (hk : MemR g o' LC mem w') (blk : Blk) (mb' : Nat -> Option Nat)
  (hmb : ∀ id b,mb' id = some b -> g.mb id = some b \/ id = mem.blks.length) (hmb2 : ∀ id,id < mem.blks.length -> mb' id = g.mb id)
  (hnew : BlkR { g with mb := mb' } o' LC w' mem.blks.length blk) : MemR { g with mb := mb' } o' LC (mem.push blk) w' := by
 have hsub : g.sub { g with mb := mb' } := ⟨fun _ _ _ h => h,fun id b hb => by rw [<- hb]; exact hmb2 id (h.dom id b hb),fun _ _ _ h => h⟩
 refine ⟨fun id b hb => ?_,fun t n x hx => ?_,fun id blk' hid => ?_,hk.im⟩
 ·simp only [Mem.push,List.length_append,List.length_cons,List.length_nil]
  rcases hmb id b hb with hb' | rfl
  ·have := h.dom id b hb'; omega
  ·omega
 ·have := h.rdom t n x hx
  simp only [Mem.push,List.length_append,List.length_cons,List.length_nil]; omega
 ·simp only [Mem.push] at hid
  rcases Nat.lt_or_ge id mem.blks.length with hlt | hge
  ·rw [List.getElem?_append_left hlt] at hid
   exact (hk.blk id blk' hid).keep hsub (fun _ _ => ⟨rfl,rfl,fun _ => rfl⟩) (fun _ h => h) (fun hn => by show mb' id = none; rw [hmb2 id hlt]; exact hn)
  ·rw [List.getElem?_append_right hge] at hid
   have : id = mem.blks.length := by
    rcases Nat.lt_or_ge 0 (id - mem.blks.length) with h0 | h0
    ·rw [List.getElem?_eq_none (by simp; omega)] at hid; cases hid
    ·omega
   subst this
   simp at hid; subst hid
   exact hnew
theorem mem_nol {v : AV} {x : Value} (_h : MemR g own LC mem w) (hv : VR g lb v x) : VR g noLB (mem.nol v) x := VR.nol hv
theorem newBld_spec (hm : MemR g own LC mem w) (hl : LocR g lb own loc w) (ho : OwnR base own w) {T e : TypeId} :
  Post base LC g lb own loc w (.gptr mem.blks.length 0) none (mem.push (.bld T e [])) (.pointer (some ⟨w.heap.size,0,none⟩)) (w.alloc (.cells #[.pointer none,.slice none 0 0] T)) := by
 have him : ∀ o,g.im w.heap.size o = none := im_new hm
 let g' : Gh := { g with mb := fun id => if id = mem.blks.length then some w.heap.size else g.mb id }
 have hsub : g.sub g' := ⟨fun _ _ _ h => h,fun id b hb => by
  have := hm.dom id b hb
  simp only [g']; rw [if_neg (by omega)]; exact hb,fun _ _ _ h => h⟩
 have hst := Steps'.alloc g own w (.cells #[.pointer none,.slice none 0 0] T) (some (.m mem.blks.length))
 refine ⟨g',lb,_,⟨hsub,hst.size,hst.os,hst.tape,hst.output,hst.keep,hst.unown,hst.im⟩,fun _ _ _ h => h,.gptr _ _ _ _ (by simp [g']),?_,?_,ho.alloc _ _⟩
 ·refine hm.push (hm.alloc ho _ _) _ _ (fun id b hb => ?_) (fun id hid => ?_) ?_
  ·split at hb
   ·exact .inr (by assumption)
   ·exact .inl hb
  ·exact if_neg (by omega)
  ·exact ⟨w.heap.size,by simp,by simp [ownNew],him,_,_,heap_alloc_at w _,.inl rfl,fun x hx => (by cases hx),.inl ⟨rfl,rfl⟩⟩
 ·exact (hl.alloc ho _ _).keep hsub fun _ _ _ => ⟨rfl,rfl,fun _ => rfl⟩
theorem newVar_spec (hm : MemR g own LC mem w) (hl : LocR g lb own loc w) (ho : OwnR base own w) {glob : Bool} {dst : Option Nat} {l : List AV} {cs : Array Value} {e : TypeId}
  (hs : cs.size = l.length) (hv : ∀ i (h : i < l.length) (h' : i < cs.size),VR g lb l[i] cs[i]) (h1 : ∀ i (h' : i < cs.size),cs[i].oneCell' = true)
  {v : AV} {u : Upd} {m' : Mem} (hr : newVar loc mem glob dst l = some (v,u,m')) :
  Post base LC g lb own loc w v u m' (.pointer (some ⟨w.heap.size,0,none⟩)) (w.alloc (.cells cs e)) := by
 have him : ∀ o,g.im w.heap.size o = none := im_new hm
 unfold newVar at hr
 split at hr
 ·simp only [Option.some.injEq,Prod.mk.injEq] at hr
  obtain ⟨rfl,rfl,rfl⟩ := hr
  let g' : Gh := { g with mb := fun id => if id = mem.blks.length then some w.heap.size else g.mb id }
  have hsub : g.sub g' := ⟨fun _ _ _ h => h,fun id b hb => by
   have := hm.dom id b hb
   simp only [g']; rw [if_neg (by omega)]; exact hb,fun _ _ _ h => h⟩
  have hst := Steps'.alloc g own w (.cells cs e) (some (.m mem.blks.length))
  refine ⟨g',lb,_,⟨hsub,hst.size,hst.os,hst.tape,hst.output,hst.keep,hst.unown,hst.im⟩,fun _ _ _ h => h,.gptr _ _ _ _ (by simp [g']),?_,?_,ho.alloc _ _⟩
  ·refine hm.push (hm.alloc ho _ _) _ _ (fun id b hb => ?_) (fun id hid => ?_) ?_
   ·split at hb
    ·exact .inr (by assumption)
    ·exact .inl hb
   ·exact if_neg (by omega)
   ·refine ⟨w.heap.size,by simp,by simp [ownNew],him,cs,e,heap_alloc_at w _,by simpa using hs,fun i hi hi' => ?_,h1⟩
    simp only [List.getElem_map]
    exact (mem_nol hm (hv i (by simpa using hi) hi')).sub hsub
  ·exact (hl.alloc ho _ _).keep hsub fun _ _ _ => ⟨rfl,rfl,fun _ => rfl⟩
 ·split at hr
  ·rename_i d
   simp only [Option.some.injEq,Prod.mk.injEq] at hr
   obtain ⟨rfl,rfl,rfl⟩ := hr
   refine ⟨g,lbNew lb d (newVer loc d) w.heap.size,_,.alloc g own w _ (some (.l d)),lbNew_sub hl d _,.lptr _ _ _ _ _ (by simp [lbNew]),hm.alloc ho _ _,?_,ho.alloc _ _⟩
   refine hl.new ho d _ _ (fun l' hl' => ?_) (fun s pos h => by cases h)
   cases hl'
   exact ⟨by simp [ownNew],him,cs,e,heap_alloc_at w _,hs,fun i hi hi' => (hv i hi hi').mono g.sub_refl (lbNew_sub hl d _),h1⟩
  ·cases hr
end
end Go.Abs
