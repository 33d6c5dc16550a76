/- Back from a call, or from a loop over a function: what was made beyond the end is cut off. -/
import Derived.Test.YtiigojkfojnedaaGreatDoorXX
set_option linter.unusedVariables false
set_option linter.unusedSimpArgs false
namespace Go.Abs

theorem Gh.cut_cut (g : Gh) (n : Nat) : (g.cut n).cut n = g.cut n := by
  unfold Gh.cut
  congr 1
  · funext id; by_cases h : id < n <;> simp [h]
  · funext t m; by_cases h : t < n <;> simp [h]

theorem Gh.cut_sub (g : Gh) (n : Nat) : (g.cut n).sub g :=
  ⟨fun _ _ _ h => h, fun id b h => (by simp only [Gh.cut] at h; split at h <;> first | exact h | cases h), fun t m x h => (by simp only [Gh.cut] at h; split at h <;> first | exact h | cases h)⟩

theorem capOK_lo {g : Gh} {n b o cap id k : Nat} {c : Cap} (h : capOK g n b o cap c) (hl : c.lo id = true) (hk : id < k) : capOK (g.cut k) n b o cap c := by
  cases c with
  | any => trivial
  | nil => exact h
  | full => exact h
  | own t =>
    simp only [Cap.lo, decide_eq_true_eq] at hl
    exact ⟨h.1, by simp only [Gh.cut]; rw [if_pos (by omega)]; exact h.2⟩

theorem lo_cells {id : Nat} {v : AV} (h : lo id v = true) : ∀ x ∈ v.cells, lo id x = true := by
  intro x hx
  cases v with
  | agg l => simp only [lo, los_eq, List.all_eq_true] at h; exact h x hx
  | tup l => cases hx
  | undef => cases hx
  | _ => simp only [AV.cells, List.mem_singleton] at hx; subst hx; exact h

/-- What points nowhere beyond id says as much where all beyond is cut off. -/
theorem VR.cut_lo {g : Gh} {lb : LB} {v : AV} {x : Value} (h : VR g lb v x) {id n : Nat} (hn : id < n) (hl : lo id v = true) : VR (g.cut n) lb v x := by
  induction h with
  | undef => exact .undef _
  | junk _ x h => exact .junk _ x h
  | int _ k n => exact .int _ k n
  | bool _ b => exact .bool _ b
  | str _ b s h => exact .str _ b s h
  | nilp => exact .nilp _
  | lptr _ d v off b h => exact .lptr _ d v off b h
  | gptr _ id' off b h =>
    simp only [lo, decide_eq_true_eq] at hl
    exact .gptr _ id' off b (by simp only [Gh.cut]; rw [if_pos (by omega)]; exact h)
  | ref _ l b o xs him _ ih =>
    simp only [lo, los_eq, List.all_eq_true] at hl
    exact .ref _ l b o xs him fun i hi => ih i hi (hl _ (List.getElem_mem hi))
  | listNil => exact .listNil _
  | listE _ c a cap hc => exact .listE _ c a cap hc
  | sl _ kd id' off m cap b hc h =>
    simp only [lo, decide_eq_true_eq] at hl
    exact .sl _ kd id' off m cap b hc (by simp only [Gh.cut]; rw [if_pos (by omega)]; exact h)
  | list _ c l b o sz m cap xs hm hcap hc hsz him _ ih =>
    simp only [lo, los_eq, Bool.and_eq_true, List.all_eq_true] at hl
    exact .list _ c l b o sz m cap xs hm hcap (capOK_lo hc hl.1 hn) hsz him fun i hi j hj => ih i hi j hj (lo_cells (hl.2 _ (List.getElem_mem hi)) _ (List.getElem_mem hj))
  | agg _ l a hs h1 _ ih =>
    simp only [lo, los_eq, List.all_eq_true] at hl
    exact .agg _ l a hs h1 fun i hi hi' => ih i hi hi' (hl _ (List.getElem_mem hi))
  | tup _ l a hs _ ih =>
    simp only [lo, los_eq, List.all_eq_true] at hl
    exact .tup _ l a hs fun i hi hi' => ih i hi hi' (hl _ (List.getElem_mem hi))
  | fn _ f f' l m a b hs ht hy _ _ ih1 ih2 =>
    simp only [lo, los_eq, Bool.and_eq_true, List.all_eq_true] at hl
    refine .fn _ f f' l m a b hs ht ?_ (fun i hi hi' => ih1 i hi hi' (hl.1.2 _ (List.getElem_mem hi))) (fun i hi hi' => ih2 i hi hi' (hl.2 _ (List.getElem_mem hi)))
    cases f <;> cases f' <;> first | exact hy | exact hy.elim | skip
    rename_i i b
    have := hl.1.1
    simp only [Fn.below, decide_eq_true_eq] at this
    simp only [FnR, Gh.cut] at hy ⊢
    rw [if_pos (by omega)]; exact hy
  | nilfn => exact .nilfn _
  | iface _ t v x _ ih => exact .iface _ t v x (ih hl)
  | nilif => exact .nilif _
  | map _ id' b h =>
    simp only [lo, decide_eq_true_eq] at hl
    exact .map _ id' b (by simp only [Gh.cut]; rw [if_pos (by omega)]; exact h)
  | nilmap => exact .nilmap _

/-- What was told already, when nothing lay beyond n, says as much where all beyond n is cut off. -/
theorem VR.cut_old {g : Gh} {lb : LB} {v : AV} {x : Value} (h : VR g lb v x) {g0 : Gh} {n : Nat} (hd : ∀ id b, g0.mb id = some b → id < n) (hr : ∀ t m y, g0.rows t m = some y → t < n) :
    ∀ {lb0 : LB} {x0 : Value}, VR g0 lb0 v x0 → VR (g.cut n) lb v x := by
  induction h with
  | undef => intro _ _ _; exact .undef _
  | junk _ x h => intro _ _ _; exact .junk _ x h
  | int _ k n => intro _ _ _; exact .int _ k n
  | bool _ b => intro _ _ _; exact .bool _ b
  | str _ b s h => intro _ _ _; exact .str _ b s h
  | nilp => intro _ _ _; exact .nilp _
  | lptr _ d v off b h => intro _ _ _; exact .lptr _ d v off b h
  | gptr _ id' off b h =>
    intro _ _ h0
    cases h0 with
    | gptr _ _ _ b0 hb0 => exact .gptr _ id' off b (by simp only [Gh.cut]; rw [if_pos (hd _ _ hb0)]; exact h)
  | ref _ l b o xs him _ ih =>
    intro _ _ h0
    cases h0 with
    | ref _ _ b0 o0 xs0 him0 hv0 => exact .ref _ l b o xs him fun i hi => ih i hi (hv0 i hi)
  | listNil => intro _ _ _; exact .listNil _
  | listE _ c a cap hc => intro _ _ _; exact .listE _ c a cap hc
  | sl _ kd id' off m cap b hc h =>
    intro _ _ h0
    cases h0 with
    | sl _ _ _ _ _ _ b0 hc0 hb0 => exact .sl _ kd id' off m cap b hc (by simp only [Gh.cut]; rw [if_pos (hd _ _ hb0)]; exact h)
  | list _ c l b o sz m cap xs hm hcap hc hsz him _ ih =>
    intro _ _ h0
    cases h0 with
    | listNil => exact hc.elim
    | listE _ c0 a0 cap0 hc0 =>
      refine .list _ c [] b o sz m cap xs hm hcap ?_ hsz him fun i hi => absurd hi (Nat.not_lt_zero _)
      rcases hc0 with rfl | ⟨rfl, _⟩
      · trivial
      · exact hc
    | list _ _ _ b0 o0 sz0 m0 cap0 xs0 hm0 hcap0 hc0 hsz0 him0 hv0 =>
      refine .list _ c l b o sz m cap xs hm hcap ?_ hsz him fun i hi j hj => ih i hi j hj (hv0 i hi j hj)
      cases c with
      | any => trivial
      | nil => exact hc
      | full => exact hc
      | own t => exact ⟨hc.1, by simp only [Gh.cut]; rw [if_pos (hr _ _ _ hc0.2)]; exact hc.2⟩
  | agg _ l a hs h1 _ ih =>
    intro _ _ h0
    cases h0 with
    | agg _ _ a0 hs0 h10 hv0 => exact .agg _ l a hs h1 fun i hi hi' => ih i hi hi' (hv0 i hi (by omega))
  | tup _ l a hs _ ih =>
    intro _ _ h0
    cases h0 with
    | tup _ _ a0 hs0 hv0 => exact .tup _ l a hs fun i hi hi' => ih i hi hi' (hv0 i hi (by omega))
  | fn _ f f' l m a b hs ht hy _ _ ih1 ih2 =>
    intro _ _ h0
    cases h0 with
    | fn _ _ f0 _ _ a0 b0 hs0 ht0 hy0 hv0 hw0 =>
      refine .fn _ f f' l m a b hs ht ?_ (fun i hi hi' => ih1 i hi hi' (hv0 i hi (by omega))) (fun i hi hi' => ih2 i hi hi' (hw0 i hi (by omega)))
      cases f <;> cases f' <;> first | exact hy | exact hy.elim | skip
      cases f0 <;> first | exact hy0.elim | skip
      simp only [FnR, Gh.cut] at hy hy0 ⊢
      rw [if_pos (hd _ _ hy0)]; exact hy
  | nilfn => intro _ _ _; exact .nilfn _
  | iface _ t v x _ ih =>
    intro _ _ h0
    cases h0 with
    | iface _ _ _ x0 h0 => exact .iface _ t v x (ih h0)
  | nilif => intro _ _ _; exact .nilif _
  | map _ id' b h =>
    intro _ _ h0
    cases h0 with
    | map _ _ b0 hb0 => exact .map _ id' b (by simp only [Gh.cut]; rw [if_pos (hd _ _ hb0)]; exact h)
  | nilmap => intro _ _ _; exact .nilmap _

/-! ### scrubbing -/
def scrubK (n : Nat) : Nat → Blk → Blk
  | 0, b => b
  | k + 1, b => scrubK n k (b.scrub n)

theorem scrubK_succ (n k : Nat) (b : Blk) : scrubK n k (b.scrub n) = scrubK n (k + 1) b := rfl

theorem scrubs_at (n : Nat) : ∀ (t : List Nat) (bs : List Blk) (id : Nat) (blk : Blk), (scrubs n t bs)[id]? = some blk → ∃ b0 k, bs[id]? = some b0 ∧ blk = scrubK n k b0 ∧ (k = 0 → id ∉ t) := by
  intro t
  induction t with
  | nil => intro bs id blk h; exact ⟨blk, 0, h, rfl, fun _ h => by cases h⟩
  | cons i t ih =>
    intro bs id blk h
    simp only [scrubs] at h
    obtain ⟨b0, k, h1, h2, h3⟩ := ih _ id blk h
    split at h1
    · rename_i b hb
      rw [List.getElem?_set] at h1
      split at h1
      · rename_i hi; subst hi
        split at h1
        · cases h1
          exact ⟨b, k + 1, hb, h2, fun h => by omega⟩
        · cases h1
      · rename_i hi
        exact ⟨b0, k, h1, h2, fun hk hm => by rcases List.mem_cons.1 hm with rfl | hm; exact hi rfl; exact h3 hk hm⟩
    · rename_i hb
      refine ⟨b0, k, h1, h2, fun hk hm => ?_⟩
      rcases List.mem_cons.1 hm with rfl | hm
      · rw [hb] at h1; cases h1
      · exact h3 hk hm

theorem scrubK_other {n k : Nat} {b : Blk} (h : ∀ l, b ≠ .cells l) : scrubK n k b = b := by
  induction k with
  | zero => rfl
  | succ k ih =>
    have : b.scrub n = b := by cases b <;> first | rfl | exact absurd rfl (h _)
    rw [scrubK, this, ih]

theorem scrubK_cells {g : Gh} {n : Nat} : ∀ (k : Nat) (l : List AV), ∃ l', scrubK n (k + 1) (.cells l) = .cells l' ∧ l'.length = l.length ∧
    ∀ i (h : i < l.length) (h' : i < l'.length) x, VR g noLB l[i] x → VR (g.cut n) noLB l'[i] x := by
  intro k
  induction k generalizing g with
  | zero =>
    intro l
    refine ⟨_, rfl, by simp, fun i h h' x hx => ?_⟩
    simp only [List.getElem_map]
    exact hx.exp n true
  | succ k ih =>
    intro l
    obtain ⟨l', h1, h2, h3⟩ := ih (g := g.cut n) (l.map (exp n true))
    refine ⟨l', h1, by simpa using h2, fun i h h' x hx => ?_⟩
    have := h3 i (by simpa using h) h' x (by simp only [List.getElem_map]; exact hx.exp n true)
    rwa [Gh.cut_cut] at this

/-- The owners of the first n blocks. -/
def ownCut (n : Nat) (own : OW) : OW := fun b => match own b with
  | some (.m id) => if id < n then some (.m id) else none
  | _ => none

theorem ownCut_pos {n : Nat} {own : OW} {b id : Nat} (h : own b = some (.m id)) (hid : id < n) : ownCut n own b = some (.m id) := by simp [ownCut, h, hid]
theorem ownCut_some {n : Nat} {own : OW} {b : Nat} {o : Own} (h : ownCut n own b = some o) : own b = some o ∧ ∃ id, o = .m id := by
  unfold ownCut at h
  split at h
  · rename_i id he
    split at h
    · cases h; exact ⟨he, id, rfl⟩
    · cases h
  · cases h
theorem ownCut_none {n : Nat} {own : OW} {b : Nat} (h : own b = none) : ownCut n own b = none := by simp [ownCut, h]

/-- **Back**: of the memory, the blocks that were there are left. -/
theorem back_spec {g0 : Gh} {own0 : OW} {LC : LCR} {m0 : Mem} {w0 : World} (h0 : MemR g0 own0 LC m0 w0) {g : Gh} {own : OW} {m : Mem} {w : World} (h : MemR g own LC m w) {extra : List Blk}
    (hk : KM { blks := m0.blks ++ extra, touched := [] } m) : MemR (g.cut m0.blks.length) (ownCut m0.blks.length own) LC (m0.back m) w := by
  have hlen : m0.blks.length ≤ m.blks.length := by have := hk.len; simp at this; omega
  have hbl : (m0.back m).blks.length = m0.blks.length := back_len hlen
  refine ⟨fun id b hb => ?_, fun t k x hx => ?_, fun id blk hb => ?_, h.im⟩
  · rw [hbl]; simp only [Gh.cut] at hb; split at hb <;> first | assumption | cases hb
  · rw [hbl]; simp only [Gh.cut] at hx; split at hx <;> first | assumption | cases hx
  · have hid : id < m0.blks.length := by
      have := (List.getElem?_eq_some_iff.1 hb).1
      omega
    simp only [Mem.back] at hb
    obtain ⟨b0, k, h1, h2, h3⟩ := scrubs_at _ _ _ _ _ hb
    rw [List.getElem?_take_of_lt hid] at h1
    have hB := h.blk id b0 h1
    have hmb : ∀ b, g.mb id = some b → (g.cut m0.blks.length).mb id = some b := fun b hb => by simp only [Gh.cut]; rw [if_pos hid]; exact hb
    cases b0 with
    | cells l =>
      obtain ⟨b, k1, k2, k3, a, e, k4, k5, k6, k7⟩ := hB
      cases k with
      | succ k =>
        obtain ⟨l', q1, q2, q3⟩ := scrubK_cells (g := g) (n := m0.blks.length) k l
        rw [h2, q1]
        exact ⟨b, hmb b k1, ownCut_pos k2 hid, k3, a, e, k4, by omega, fun i hi hi' => q3 i (by omega) hi _ (k6 i (by omega) hi'), k7⟩
      | zero =>
        rw [h2]
        refine ⟨b, hmb b k1, ownCut_pos k2 hid, k3, a, e, k4, k5, fun i hi hi' => ?_, k7⟩
        have hv := k6 i hi hi'
        rcases hk.cells id l h1 (by simp; omega) (h3 rfl) l[i] (List.getElem_mem hi) with ⟨lo', q1, q2⟩ | q1
        · rw [List.getElem?_append_left hid] at q1
          obtain ⟨b', r1, r2, r3, a', e', r4, r5, r6, r7⟩ := h0.blk id _ q1
          obtain ⟨j, hj, hje⟩ := List.mem_iff_getElem.1 q2
          have hx := r6 j hj (by omega)
          rw [hje] at hx
          exact hv.cut_old h0.dom h0.rdom hx
        · exact hv.cut_lo hid q1
    | iter s pos => exact hB.elim
    | dead =>
      rw [h2, scrubK_other (by simp)]
      trivial
    | bld T e s =>
      rw [h2, scrubK_other (by simp)]
      obtain ⟨b, k1, k2, k3, p, v, k4, k5, k6, k7⟩ := hB
      refine ⟨b, hmb b k1, ownCut_pos k2 hid, k3, p, v, k4, k5, k6, ?_⟩
      rcases k7 with k7 | ⟨r, cap, cur, q1, q2, q3⟩
      · exact .inl k7
      · exact .inr ⟨r, cap, cur, q1, ownCut_pos q2 hid, q3⟩
    | map es =>
      rw [h2, scrubK_other (by simp)]
      obtain ⟨b, k1, k2, k3, a, c, k4, k5, k6, k7⟩ := hB
      refine ⟨b, hmb b k1, ownCut_pos k2 hid, k3, a, c, k4, k5, fun i hi hi' => ?_, k7⟩
      obtain ⟨q1, q2⟩ := k6 i hi hi'
      obtain ⟨p1, p2⟩ := k7 _ (List.getElem_mem hi)
      have r1 := VR.exp (lb' := noLB) m0.blks.length true q1
      have r2 := VR.exp (lb' := noLB) m0.blks.length true q2
      rw [exp_plain _ _ _ p1] at r1
      rw [exp_plain _ _ _ p2] at r2
      exact ⟨r1, r2⟩
    | front c sz e =>
      rw [h2, scrubK_other (by simp)]
      obtain ⟨k0, b, cap, k1, k2, k3, k4, k5, k6, k7⟩ := hB
      refine ⟨k0, b, cap, by simp only [Gh.cut]; rw [if_pos hid]; exact k1, k2, ownCut_pos k3 hid, k4, k5, fun m' x hx => k6 m' x ?_, by simp only [Gh.cut]; rw [if_pos hid]; exact k7⟩
      simp only [Gh.cut] at hx; rw [if_pos hid] at hx; exact hx
    | loop env ps asg body st =>
      rw [h2, scrubK_other (by simp)]
      obtain ⟨b, k1, k2, k3, L, N, k4, k5, k6, k7, k8, k9, k10, k11, k12⟩ := hB
      exact ⟨b, hmb b k1, ownCut_pos k2 hid, k3, L, N, k4, fun t => by
        obtain ⟨g0, x0, q1, q2, q3⟩ := k12 t
        exact (k5 t).cut_old (fun i b hb => Nat.lt_trans (q1 i b hb) hid) (fun i m y hy => Nat.lt_trans (q2 i m y hy) hid) q3, k6, k7, k8, k9, k10, k11, k12⟩

end Go.Abs
