/- What memory's own steps keep: a new variable, a store, a new row, a draw. -/
import Derived.Test.YtiigojkfojnedaaGreatDoorXD
set_option linter.unusedVariables false
set_option linter.unusedSimpArgs false
namespace Go.Abs

def updF (loc : Nat → Option (Nat × Blk)) : Upd → Nat → Option (Nat × Blk)
  | none => loc
  | some (d, v, b) => fun d' => if d = d' then some (v, b) else loc d'

theorem lget_setU (loc : Loc) (u : Upd) : lget (setU loc u) = updF (lget loc) u := by
  funext d'
  cases u with
  | none => rfl
  | some x => obtain ⟨d, v, b⟩ := x; simp [setU, updF, lget_lset]

def Post (base : Nat) (LC : LCR) (g : Gh) (lb : LB) (own : OW) (loc : Nat → Option (Nat × Blk)) (w : World) (v : AV) (u : Upd) (m' : Mem) (x : Value) (w' : World) : Prop :=
  ∃ (g' : Gh) (lb' : LB) (own' : OW), Steps' g own w g' own' w' ∧ (∀ d i b, lb d i = some b → lb' d i = some b) ∧ VR g' lb' v x ∧ MemR g' own' LC m' w' ∧
    LocR g' lb' own' (updF loc u) w' ∧ OwnR base own' w'

section
variable {base : Nat} {LC : LCR} {g g' : Gh} {lb lb' : LB} {own own' : OW} {loc : Nat → Option (Nat × Blk)} {mem : Mem} {w w' : World}

theorem Post.pure {v : AV} {x : Value} (hm : MemR g own LC mem w) (hl : LocR g lb own loc w) (ho : OwnR base own w) (h : VR g lb v x) : Post base LC g lb own loc w v none mem x w :=
  ⟨g, lb, own, .refl g own w, fun _ _ _ h => h, h, hm, hl, ho⟩

/-- The memory's blocks stay as they are told of. -/
theorem MemR.keep (h : MemR g own LC mem w) (hg : g.sub g') (hdom : ∀ id, g.mb id = none → g'.mb id = none) (hrows : ∀ t n, g.rows t n = none → g'.rows t n = none)
    (hb : ∀ id b, own b = some (.m id) → own' b = own b ∧ w'.heap[b]? = w.heap[b]? ∧ ∀ o, g'.im b o = g.im b o)
    (him : ∀ b o x, g'.im b o = some x → w'.cell? ⟨b, o, none⟩ = some x) : MemR g' own' LC mem w' := {
  dom id b hb' := by
    cases hx : g.mb id with
    | none => rw [hdom id hx] at hb'; cases hb'
    | some c => exact h.dom id c hx
  rdom t n x hx := by
    cases hy : g.rows t n with
    | none => rw [hrows t n hy] at hx; cases hx
    | some y => exact h.rdom t n y hy
  blk id blk hid := (h.blk id blk hid).keep hg (hb id) (hrows id) (hdom id)
  im := him }


theorem LocR.keep (h : LocR g lb own loc w) (hg : g.sub g')
    (hb : ∀ d b, own b = some (.l d) → own' b = own b ∧ w'.heap[b]? = w.heap[b]? ∧ ∀ o, g'.im b o = g.im b o) : LocR g' lb own' loc w' := {
  cells d v l hd := by
    obtain ⟨b, h1, h2⟩ := h.cells d v l hd
    obtain ⟨k1, k2, k3⟩ := hb d b h2.1
    exact ⟨b, h1, h2.keep hg (fun _ _ _ h => h) k1 k2 k3⟩
  iter d v s pos hd := by
    obtain ⟨b, h1, h2, h3, bs, h4, h5⟩ := h.iter d v s pos hd
    obtain ⟨k1, k2, k3⟩ := hb d b h2
    exact ⟨b, h1, k1.trans h2, fun o => (k3 o).trans (h3 o), bs, k2.trans h4, h5⟩
  ver := h.ver }


theorem heap_alloc_lt (w : World) (o : Obj) {b : Nat} (h : b < w.heap.size) : (w.alloc o).heap[b]? = w.heap[b]? := Go.RowKit.Below.heap_alloc w o b h
theorem heap_alloc_at (w : World) (o : Obj) : (w.alloc o).heap[w.heap.size]? = some o := by show (w.heap.push o)[w.heap.size]? = _; simp

theorem cell_lt {w : World} {b o : Nat} {x : Value} (h : w.cell? ⟨b, o, none⟩ = some x) : b < w.heap.size := by
  unfold World.cell? at h
  split at h
  · rename_i heq; exact (Array.getElem?_eq_some_iff.1 heq).1
  · cases h

/-- A draw changes nothing. -/
theorem Post.drew {v : AV} {u : Upd} {m' : Mem} {x : Value} (h : Post base LC g lb own loc w.drew v u m' x w') : Post base LC g lb own loc w v u m' x w' := by
  obtain ⟨g', lb', own', hs, r⟩ := h
  exact ⟨g', lb', own', ⟨hs.sub, hs.size, hs.os, hs.tape, hs.output, hs.keep, hs.unown, hs.im⟩, r⟩
theorem MemR.drew (h : MemR g own LC mem w) : MemR g own LC mem w.drew :=
  h.keep g.sub_refl (fun _ h => h) (fun _ _ h => h) (fun _ _ _ => ⟨rfl, rfl, fun _ => rfl⟩) h.im
theorem LocR.drew (h : LocR g lb own loc w) : LocR g lb own loc w.drew := h.keep g.sub_refl fun _ _ _ => ⟨rfl, rfl, fun _ => rfl⟩
theorem OwnR.drew (h : OwnR base own w) : OwnR base own w.drew := ⟨h.ge, h.base⟩

/-- A new block whose owner is told (or nobody). -/
def ownNew (own : OW) (b : Nat) (o : Option Own) : OW := fun b' => if b' = b then o else own b'

theorem own_lt (ho : OwnR base own w) {b : Nat} {o : Own} (h : own b = some o) : b ≠ w.heap.size := by
  have := (ho.ge b o h).2; omega

theorem MemR.alloc (h : MemR g own LC mem w) (ho : OwnR base own w) (o : Obj) (nm : Option Own) : MemR g (ownNew own w.heap.size nm) LC mem (w.alloc o) :=
  h.keep g.sub_refl (fun _ h => h) (fun _ _ h => h)
    (fun id b hb => ⟨by simp [ownNew, own_lt ho hb], heap_alloc_lt w o (ho.ge b _ hb).2, fun _ => rfl⟩)
    (fun b o' x hx => by
      have hc := h.im b o' x hx
      rw [cell?_of_heap (heap_alloc_lt w o (cell_lt hc))]; exact hc)

theorem LocR.alloc (h : LocR g lb own loc w) (ho : OwnR base own w) (o : Obj) (nm : Option Own) : LocR g lb (ownNew own w.heap.size nm) loc (w.alloc o) :=
  h.keep g.sub_refl (fun d b hb => ⟨by simp [ownNew, own_lt ho hb], heap_alloc_lt w o (ho.ge b _ hb).2, fun _ => rfl⟩)

theorem Steps'.alloc (g : Gh) (own : OW) (w : World) (o : Obj) (nm : Option Own) : Steps' g own w g (ownNew own w.heap.size nm) (w.alloc o) := {
  sub := g.sub_refl
  size := by simp
  os := rfl
  tape := rfl
  output := rfl
  keep b hb _ := heap_alloc_lt w o hb
  unown b hb h := by simp only [ownNew]; rw [if_neg (by omega)]; exact h
  im _ _ _ _ := rfl }


theorem OwnR.alloc (h : OwnR base own w) (o : Obj) (nm : Option Own) : OwnR base (ownNew own w.heap.size nm) (w.alloc o) := {
  ge b o' hb := by
    simp only [ownNew] at hb
    split at hb
    · rename_i hbe; subst hbe; exact ⟨h.base, by simp⟩
    · have := h.ge b o' hb; exact ⟨this.1, by simp; omega⟩
  base := by have := h.base; simp; omega }


/-- No cell of a new block is told of yet. -/
theorem im_new (h : MemR g own LC mem w) (o : Nat) : g.im w.heap.size o = none := by
  cases hx : g.im w.heap.size o with
  | none => rfl
  | some x => have := cell_lt (h.im _ _ _ hx); omega

def lbNew (lb : LB) (d v b : Nat) : LB := fun d' v' => if d' = d ∧ v' = v then some b else lb d' v'

theorem newVer_lt (h : LocR g lb own loc w) {d v b : Nat} (hb : lb d v = some b) : v < newVer loc d := by
  obtain ⟨v', blk, h1, h2⟩ := h.ver d v b hb
  simp only [newVer, h1]; omega

theorem lbNew_sub (h : LocR g lb own loc w) (d b : Nat) : ∀ d' i b', lb d' i = some b' → lbNew lb d (newVer loc d) b d' i = some b' := by
  intro d' i b' hb
  simp only [lbNew]
  rw [if_neg]
  · exact hb
  · rintro ⟨rfl, rfl⟩
    exact Nat.lt_irrefl _ (newVer_lt h hb)

/-- A new private block. -/
theorem LocR.new (h : LocR g lb own loc w) (ho : OwnR base own w) (d : Nat) (o : Obj) (blk : Blk)
    (hc : ∀ l, blk = .cells l → CellsR g (lbNew lb d (newVer loc d) w.heap.size) (ownNew own w.heap.size (some (.l d))) (w.alloc o) (.l d) w.heap.size l)
    (hi : ∀ s pos, blk = .iter s pos → (∀ o, g.im w.heap.size o = none) ∧ ∃ bs : ByteArray, o = .stringIter bs pos ∧ bs.data.toList.map UInt8.toNat = s) :
    LocR g (lbNew lb d (newVer loc d) w.heap.size) (ownNew own w.heap.size (some (.l d))) (updF loc (some (d, newVer loc d, blk))) (w.alloc o) := by
  have h' := h.alloc ho o (some (.l d))
  have hs := lbNew_sub h d w.heap.size
  refine ⟨fun d' v l hd => ?_, fun d' v s pos hd => ?_, fun d' v b hb => ?_⟩
  · simp only [updF] at hd
    split at hd
    · rename_i hdd; subst hdd; cases hd
      exact ⟨w.heap.size, by simp [lbNew], hc l rfl⟩
    · obtain ⟨b, h1, h2⟩ := h'.cells d' v l hd
      exact ⟨b, hs _ _ _ h1, h2.keep g.sub_refl hs rfl rfl fun _ => rfl⟩
  · simp only [updF] at hd
    split at hd
    · rename_i hdd; subst hdd; cases hd
      obtain ⟨k1, bs, rfl, k2⟩ := hi s pos rfl
      exact ⟨w.heap.size, by simp [lbNew], by simp [ownNew], k1, bs, heap_alloc_at w _, k2⟩
    · obtain ⟨b, h1, r⟩ := h'.iter d' v s pos hd
      exact ⟨b, hs _ _ _ h1, r⟩
  · simp only [lbNew] at hb
    split at hb
    · rename_i hdd; obtain ⟨rfl, rfl⟩ := hdd
      exact ⟨_, blk, by simp [updF], Nat.le_refl _⟩
    · by_cases hdd : d = d'
      · subst hdd
        exact ⟨_, blk, by simp [updF], Nat.le_of_lt (newVer_lt h hb)⟩
      · obtain ⟨v', blk', h1, h2⟩ := h.ver d' v b hb
        exact ⟨v', blk', by simp [updF, hdd, h1], h2⟩

/-- What is told of the memory where a block is put behind the last one. -/
theorem MemR.push {o' : OW} (h : MemR g own LC mem w) (hk : MemR g o' LC mem w') (blk : Blk) (mb' : Nat → Option Nat)
    (hmb : ∀ id b, mb' id = some b → g.mb id = some b ∨ id = mem.blks.length) (hmb2 : ∀ id, id < mem.blks.length → mb' id = g.mb id)
    (hnew : BlkR { g with mb := mb' } o' LC w' mem.blks.length blk) : MemR { g with mb := mb' } o' LC (mem.push blk) w' := by
  have hsub : g.sub { g with mb := mb' } := ⟨fun _ _ _ h => h, fun id b hb => by rw [← hb]; exact hmb2 id (h.dom id b hb), fun _ _ _ h => h⟩
  refine ⟨fun id b hb => ?_, fun t n x hx => ?_, fun id blk' hid => ?_, hk.im⟩
  · simp only [Mem.push, List.length_append, List.length_cons, List.length_nil]
    rcases hmb id b hb with hb' | rfl
    · have := h.dom id b hb'; omega
    · omega
  · have := h.rdom t n x hx
    simp only [Mem.push, List.length_append, List.length_cons, List.length_nil]; omega
  · simp only [Mem.push] at hid
    rcases Nat.lt_or_ge id mem.blks.length with hlt | hge
    · rw [List.getElem?_append_left hlt] at hid
      exact (hk.blk id blk' hid).keep hsub (fun _ _ => ⟨rfl, rfl, fun _ => rfl⟩) (fun _ h => h) (fun hn => by show mb' id = none; rw [hmb2 id hlt]; exact hn)
    · rw [List.getElem?_append_right hge] at hid
      have : id = mem.blks.length := by
        rcases Nat.lt_or_ge 0 (id - mem.blks.length) with h0 | h0
        · rw [List.getElem?_eq_none (by simp; omega)] at hid; cases hid
        · omega
      subst this
      simp at hid; subst hid
      exact hnew

theorem mem_nol {v : AV} {x : Value} (_h : MemR g own LC mem w) (hv : VR g lb v x) : VR g noLB (mem.nol v) x := VR.nol hv

/-- A new variable. -/
theorem newBld_spec (hm : MemR g own LC mem w) (hl : LocR g lb own loc w) (ho : OwnR base own w) {T e : TypeId} :
    Post base LC g lb own loc w (.gptr mem.blks.length 0) none (mem.push (.bld T e [])) (.pointer (some ⟨w.heap.size, 0, none⟩)) (w.alloc (.cells #[.pointer none, .slice none 0 0] T)) := by
  have him : ∀ o, g.im w.heap.size o = none := im_new hm
  let g' : Gh := { g with mb := fun id => if id = mem.blks.length then some w.heap.size else g.mb id }
  have hsub : g.sub g' := ⟨fun _ _ _ h => h, fun id b hb => by
    have := hm.dom id b hb
    simp only [g']; rw [if_neg (by omega)]; exact hb, fun _ _ _ h => h⟩
  have hst := Steps'.alloc g own w (.cells #[.pointer none, .slice none 0 0] T) (some (.m mem.blks.length))
  refine ⟨g', lb, _, ⟨hsub, hst.size, hst.os, hst.tape, hst.output, hst.keep, hst.unown, hst.im⟩, fun _ _ _ h => h, .gptr _ _ _ _ (by simp [g']), ?_, ?_, ho.alloc _ _⟩
  · refine hm.push (hm.alloc ho _ _) _ _ (fun id b hb => ?_) (fun id hid => ?_) ?_
    · split at hb
      · exact .inr (by assumption)
      · exact .inl hb
    · exact if_neg (by omega)
    · exact ⟨w.heap.size, by simp, by simp [ownNew], him, _, _, heap_alloc_at w _, .inl rfl, fun x hx => (by cases hx), .inl ⟨rfl, rfl⟩⟩
  · exact (hl.alloc ho _ _).keep hsub fun _ _ _ => ⟨rfl, rfl, fun _ => rfl⟩

theorem newVar_spec (hm : MemR g own LC mem w) (hl : LocR g lb own loc w) (ho : OwnR base own w) {glob : Bool} {dst : Option Nat} {l : List AV} {cs : Array Value} {e : TypeId}
    (hs : cs.size = l.length) (hv : ∀ i (h : i < l.length) (h' : i < cs.size), VR g lb l[i] cs[i]) (h1 : ∀ i (h' : i < cs.size), cs[i].oneCell' = true)
    {v : AV} {u : Upd} {m' : Mem} (hr : newVar loc mem glob dst l = some (v, u, m')) :
    Post base LC g lb own loc w v u m' (.pointer (some ⟨w.heap.size, 0, none⟩)) (w.alloc (.cells cs e)) := by
  have him : ∀ o, g.im w.heap.size o = none := im_new hm
  unfold newVar at hr
  split at hr
  · simp only [Option.some.injEq, Prod.mk.injEq] at hr
    obtain ⟨rfl, rfl, rfl⟩ := hr
    let g' : Gh := { g with mb := fun id => if id = mem.blks.length then some w.heap.size else g.mb id }
    have hsub : g.sub g' := ⟨fun _ _ _ h => h, fun id b hb => by
      have := hm.dom id b hb
      simp only [g']; rw [if_neg (by omega)]; exact hb, fun _ _ _ h => h⟩
    have hst := Steps'.alloc g own w (.cells cs e) (some (.m mem.blks.length))
    refine ⟨g', lb, _, ⟨hsub, hst.size, hst.os, hst.tape, hst.output, hst.keep, hst.unown, hst.im⟩, fun _ _ _ h => h, .gptr _ _ _ _ (by simp [g']), ?_, ?_, ho.alloc _ _⟩
    · refine hm.push (hm.alloc ho _ _) _ _ (fun id b hb => ?_) (fun id hid => ?_) ?_
      · split at hb
        · exact .inr (by assumption)
        · exact .inl hb
      · exact if_neg (by omega)
      · refine ⟨w.heap.size, by simp, by simp [ownNew], him, cs, e, heap_alloc_at w _, by simpa using hs, fun i hi hi' => ?_, h1⟩
        simp only [List.getElem_map]
        exact (mem_nol hm (hv i (by simpa using hi) hi')).sub hsub
    · exact (hl.alloc ho _ _).keep hsub fun _ _ _ => ⟨rfl, rfl, fun _ => rfl⟩
  · split at hr
    · rename_i d
      simp only [Option.some.injEq, Prod.mk.injEq] at hr
      obtain ⟨rfl, rfl, rfl⟩ := hr
      refine ⟨g, lbNew lb d (newVer loc d) w.heap.size, _, .alloc g own w _ (some (.l d)), lbNew_sub hl d _, .lptr _ _ _ _ _ (by simp [lbNew]), hm.alloc ho _ _, ?_, ho.alloc _ _⟩
      refine hl.new ho d _ _ (fun l' hl' => ?_) (fun s pos h => by cases h)
      cases hl'
      exact ⟨by simp [ownNew], him, cs, e, heap_alloc_at w _, hs, fun i hi hi' => (hv i hi hi').mono g.sub_refl (lbNew_sub hl d _), h1⟩
    · cases hr

end
end Go.Abs
