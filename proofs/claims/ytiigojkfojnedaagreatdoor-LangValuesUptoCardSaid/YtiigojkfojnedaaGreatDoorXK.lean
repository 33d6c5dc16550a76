/- Each operation's answer by the executor is the machine's. -/
import Derived.Test.YtiigojkfojnedaaGreatDoorXI
set_option linter.unusedVariables false
set_option linter.unusedSimpArgs false
namespace Go.Abs

section
variable {P : Program} {base : Nat} {LC : LCR} {g : Gh} {lb : LB} {own : OW} {loc : Nat → Option (Nat × Blk)} {mem : Mem} {w : World} {esc : Nat → Bool} {callv : CallV}
variable {ev : Opd → AV} {a : Act}

/-- What an operation (no call) comes to. -/
def OpOK (P : Program) (base : Nat) (LC : LCR) (g : Gh) (lb : LB) (own : OW) (loc : Nat → Option (Nat × Blk)) (w : World) (a : Act) (o : Oper) (v : AV) (u : Upd) (m' : Mem) : Prop :=
  ∃ x w', ((execOp a.eval o).run P w = .ok (.value x) w' ∨ ((execOp a.eval o).run P w = .ok .skip w' ∧ x = undef)) ∧ Post base LC g lb own loc w v u m' x w'

def EvOK (g : Gh) (lb : LB) (ev : Opd → AV) (a : Act) : Prop := ∀ x x', cOpd x = some x' → VR g lb (ev x') (a.eval x)

theorem evs_spec (hev : EvOK g lb ev a) {l : List Operand} {m : List Opd} (h : cOpds l = some m) : PW (VR g lb) (m.map ev) (l.map a.eval) := by
  induction l generalizing m with
  | nil => cases h; exact PW.nil
  | cons x l ih =>
    simp only [cOpds] at h
    split at h
    · rename_i x' m' h1 h2
      cases h
      exact PW.cons (hev _ _ h1) (ih h2)
    · cases h

theorem tySz_spec {t : TypeId} {n : Nat} (h : tySz P t = some n) : (sizeOf t).run P w = .ok n w ∧ 0 < n ∧ (P.info? t).map (·.size) = some n := by
  unfold tySz at h
  split at h
  · rename_i i hi
    split at h
    · rename_i h0; cases h
      exact ⟨by simp [sizeOf, typeInfo, hi], h0, by simp [hi]⟩
    · cases h
  · cases h

theorem tyAg_spec {t : TypeId} {ag : Bool} (h : tyAg P t = some ag) : (isAgg t).run P w = .ok ag w := by
  unfold tyAg at h
  split at h
  · rename_i hu; cases h; simp [isAgg, run_underlying hu]
  · rename_i hu; cases h; simp [isAgg, run_underlying hu]
  · rename_i d h1 h2 hu
    cases h
    have hd : ∀ w : World, (isAgg t).run P w = (match d with | .struct _ | .array _ _ => (pure true : Sem Bool) | _ => pure false).run P w := fun w => by
      simp only [isAgg, Sem.run_bind, run_underlying hu, Result.andThen_ok]
    rw [hd]
    cases d <;> first | rfl | (exact absurd rfl (h1 _)) | (exact absurd rfl (h2 _ _))
  · cases h

theorem tyZero_spec {t : TypeId} {l : List AV} (h : tyZero P t = some l) : ∃ z i, P.info? t = some i ∧ i.zero = some z ∧ (zeroValue t).run P w = .ok z w ∧ z.cells.size = i.size ∧ l.length = i.size ∧ 0 < i.size ∧
    PW (VR g lb) l z.cells.toList ∧ ∀ v ∈ z.cells.toList, v.oneCell' = true := by
  unfold tyZero at h
  split at h
  · rename_i i hi
    split at h
    · rename_i z hz
      split at h
      · rename_i v hv
        split at h
        · rename_i hc; cases h
          have hvr := absC_spec (g := g) (lb := lb) hv
          obtain ⟨k1, k2, k3⟩ := hvr.cells (by intro hn; rw [hn] at hc; simp at hc; omega)
          refine ⟨z, i, hi, hz, by simp [zeroValue, typeInfo, hi, hz], hc.2.1, hc.2.2, hc.1, ⟨by simpa using k1.symm, fun i hi hi' => ?_⟩, fun u hu => ?_⟩
          · have := k2 i hi (by simpa using hi')
            rwa [Array.getElem_toList]
          · obtain ⟨j, hj, rfl⟩ := List.mem_iff_getElem.1 hu
            have := k3 j (by simpa using hj)
            rwa [Array.getElem_toList]
        · cases h
      · cases h
    · cases h
  · cases h

theorem pw_cells {v : AV} {x : Value} (h : VR g lb v x) (hn : 0 < v.cells.length) : PW (VR g lb) v.cells x.cells.toList ∧ ∀ u ∈ x.cells.toList, u.oneCell' = true := by
  obtain ⟨k1, k2, k3⟩ := h.cells (by intro h0; rw [h0] at hn; simp at hn)
  refine ⟨⟨by simpa using k1.symm, fun i hi hi' => ?_⟩, fun u hu => ?_⟩
  · have := k2 i hi (by simpa using hi')
    rwa [Array.getElem_toList]
  · obtain ⟨j, hj, rfl⟩ := List.mem_iff_getElem.1 hu
    have := k3 j (by simpa using hj)
    rwa [Array.getElem_toList]

/-! ### the parts of a struct -/
theorem foldl_set (off : Nat) : ∀ (vs : List Value) (k : Nat) (cs : Array Value), off + k + vs.length ≤ cs.size →
    ((vs.zipIdx k).foldl (fun cs (c, j) => cs.setIfInBounds (off + j) c) cs).toList = cs.toList.take (off + k) ++ vs ++ cs.toList.drop (off + k + vs.length)
  | [], k, cs, _ => by simp
  | v :: vs, k, cs, h => by
    simp only [List.length_cons] at h
    simp only [List.zipIdx_cons, List.foldl_cons]
    rw [foldl_set off vs (k + 1) (cs.setIfInBounds (off + k) v) (by simp; omega)]
    have := Go.list_seg_step cs.toList (off + k) v vs (by simp; omega)
    simpa [Array.toList_setIfInBounds, Nat.add_assoc, Nat.add_comm, Nat.add_left_comm] using this

theorem fill_spec (hev : EvOK g lb ev a) (place : Nat → Option (Nat × Nat)) : ∀ (parts : List (Nat × Operand)) (ps : List (Nat × Nat × Opd)) (cs : List AV) (vs : Array Value) (r : List AV),
    parts.length = ps.length → (∀ k (h : k < parts.length) (h' : k < ps.length), place parts[k].1 = some (ps[k].1, ps[k].2.1) ∧ cOpd parts[k].2 = some ps[k].2.2 ∧ 0 < ps[k].2.1) →
    PW (VR g lb) cs vs.toList → (∀ v ∈ vs.toList, v.oneCell' = true) → fills ev ps cs = some r →
    ∃ ws : Array Value, Instr.fill place vs (parts.map fun (i, x) => (i, a.eval x)) = some ws ∧ PW (VR g lb) r ws.toList ∧ ∀ v ∈ ws.toList, v.oneCell' = true
  | [], [], cs, vs, r, _, _, hp, h1, hr => by cases hr; exact ⟨vs, rfl, hp, h1⟩
  | [], _ :: _, _, _, _, hl, _, _, _, _ => by simp at hl
  | _ :: _, [], _, _, _, hl, _, _, _, _ => by simp at hl
  | (i, x) :: parts, (off, size, x') :: ps, cs, vs, r, hl, hk, hp, h1, hr => by
    obtain ⟨k1, k2, k3⟩ := hk 0 (by simp) (by simp)
    simp only [List.getElem_cons_zero] at k1 k2 k3
    simp only [fills] at hr
    split at hr
    · rename_i hc
      obtain ⟨hcl, hle⟩ := hc
      obtain ⟨q1, q2⟩ := pw_cells (hev _ _ k2) (by omega)
      have hsz : (a.eval x).cells.size = size := by have := q1.1; simp at this; omega
      have hvs : vs.size = cs.length := by have := hp.1; simp at this; omega
      let vs' : Array Value := (a.eval x).cells.zipIdx.foldl (fun cs (c, j) => cs.setIfInBounds (off + j) c) vs
      have hvs' : vs'.toList = vs.toList.take off ++ (a.eval x).cells.toList ++ vs.toList.drop (off + (a.eval x).cells.toList.length) := by
        have h := foldl_set off (a.eval x).cells.toList 0 vs (by simp only [Array.length_toList, hsz, hvs]; omega)
        simp only [Nat.add_zero] at h
        rw [← h]
        simp only [vs', ← Array.foldl_toList, Array.toList_zipIdx]
      have hp' : PW (VR g lb) (splice cs off (ev x').cells) vs'.toList := by
        rw [hvs']; unfold splice
        have hlen := q1.1
        rw [hlen]
        exact ((hp.take off).append q1).append (hp.drop _)
      have h1' : ∀ v ∈ vs'.toList, v.oneCell' = true := by
        rw [hvs']
        intro v hv
        rcases List.mem_append.1 hv with hv | hv
        · rcases List.mem_append.1 hv with hv | hv
          · exact h1 _ (List.mem_of_mem_take hv)
          · exact q2 _ hv
        · exact h1 _ (List.mem_of_mem_drop hv)
      obtain ⟨ws, e1, e2, e3⟩ := fill_spec hev place parts ps _ vs' r (by simpa using hl) (fun k h h' => by
        have := hk (k + 1) (by simpa using h) (by simpa using h'); simpa using this) hp' h1' hr
      refine ⟨ws, ?_, e2, e3⟩
      simp only [List.map_cons, Instr.fill, k1]
      rw [if_neg (by simp [hsz, hvs]; omega)]
      exact e1
    · cases hr

theorem run_places' {fs : List Field} {m : List (Nat × Nat)} (h : places P fs = some m) : (fs.mapM fun f => do pure (f.offset, ← sizeOf f.type) : Sem (List (Nat × Nat))).run P w = .ok m w ∧
    ∀ (k : Nat) (fd : Field), fs[k]? = some fd → ∃ i, P.info? fd.type = some i ∧ m[k]? = some (fd.offset, i.size) := by
  induction fs generalizing m with
  | nil => cases h; exact ⟨rfl, by simp⟩
  | cons f fs ih =>
    simp only [places] at h
    split at h
    · rename_i i m' hi hm
      cases h
      obtain ⟨k1, k2⟩ := ih hm
      refine ⟨?_, fun k fd hk => ?_⟩
      · have hs : (sizeOf f.type).run P w = .ok i.size w := by simp [sizeOf, typeInfo, hi]
        simp only [List.mapM_cons, Sem.run_bind, hs, Result.andThen_ok, Sem.run_pure, k1]
      · cases k with
        | zero => simp at hk; subst hk; exact ⟨i, hi, by simp⟩
        | succ k => simpa using k2 k fd (by simpa using hk)
    · cases h

theorem cPartsS_spec {fields : Array Field} {parts : List (Nat × Operand)} {ps : List (Nat × Nat × Opd)} (h : cPartsS P fields parts = some ps) :
    parts.length = ps.length ∧ ∀ k (h : k < parts.length) (h' : k < ps.length), (∃ fd, fields[parts[k].1]? = some fd ∧ fd.offset = ps[k].1 ∧ tySz P fd.type = some ps[k].2.1) ∧ cOpd parts[k].2 = some ps[k].2.2 := by
  induction parts generalizing ps with
  | nil => cases h; exact ⟨rfl, fun k h => by simp at h⟩
  | cons p parts ih =>
    obtain ⟨i, x⟩ := p
    simp only [cPartsS] at h
    split at h
    · rename_i fd x' l' h1 h2 h3
      split at h
      · rename_i n hn
        cases h
        obtain ⟨e1, e2⟩ := ih h3
        refine ⟨by simp [e1], fun k hk hk' => ?_⟩
        cases k with
        | zero => exact ⟨⟨fd, h1, rfl, hn⟩, h2⟩
        | succ k => exact e2 k (by simpa using hk) (by simpa using hk')
      · cases h
    · cases h

theorem cPartsA_spec {sz : Nat} {parts : List (Nat × Operand)} {ps : List (Nat × Nat × Opd)} (h : cPartsA sz parts = some ps) :
    parts.length = ps.length ∧ ∀ k (h : k < parts.length) (h' : k < ps.length), ps[k].1 = parts[k].1 * sz ∧ ps[k].2.1 = sz ∧ cOpd parts[k].2 = some ps[k].2.2 := by
  induction parts generalizing ps with
  | nil => cases h; exact ⟨rfl, fun k h => by simp at h⟩
  | cons p parts ih =>
    obtain ⟨i, x⟩ := p
    simp only [cPartsA] at h
    split at h
    · rename_i x' l' h2 h3
      cases h
      obtain ⟨e1, e2⟩ := ih h3
      refine ⟨by simp [e1], fun k hk hk' => ?_⟩
      cases k with
      | zero => exact ⟨rfl, rfl, h2⟩
      | succ k => exact e2 k (by simpa using hk) (by simpa using hk')
    · cases h

theorem agg_of_pw {r : List AV} {ws : Array Value} (h : PW (VR g lb) r ws.toList) (h1 : ∀ v ∈ ws.toList, v.oneCell' = true) : VR g lb (.agg r) (.agg ws) :=
  .agg _ _ _ (by simpa using h.1.symm) (fun i hi => h1 _ (by simp)) fun i hi hi' => by have := h.2 i hi (by simpa using hi'); rwa [Array.getElem_toList] at this

theorem pw_agg {r : List AV} {ws : Array Value} (h : VR g lb (.agg r) (.agg ws)) : PW (VR g lb) r ws.toList ∧ ∀ v ∈ ws.toList, v.oneCell' = true := by
  cases h with
  | agg _ _ _ hs h1 hv =>
    refine ⟨⟨by simpa using hs.symm, fun i hi hi' => by rw [Array.getElem_toList]; exact hv i hi _⟩, fun v hv' => ?_⟩
    obtain ⟨j, hj, rfl⟩ := List.mem_iff_getElem.1 hv'
    rw [Array.getElem_toList]; exact h1 j _

theorem run_build (hev : EvOK g lb ev a) {t : TypeId} {parts : Array (Nat × Operand)} {z : List AV} {ps : List (Nat × Nat × Opd)} {r : List AV} (hz : tyZero P t = some z)
    (hps : (∃ fields m, P.underlying t = some (.struct fields) ∧ places P fields.toList = some m ∧ cPartsS P fields parts.toList = some ps) ∨
      (∃ n e sz, P.underlying t = some (.array n e) ∧ tySz P e = some sz ∧ cPartsA sz parts.toList = some ps))
    (hr : fills ev ps z = some r) : ∃ x, (Instr.build t (parts.map fun (i, x) => (i, a.eval x))).run P w = .ok x w ∧ VR g lb (.agg r) x := by
  obtain ⟨zv, i, hi, hz1, hz2, -, -, -, hpw, h1⟩ := tyZero_spec (P := P) (g := g) (lb := lb) (w := w) hz
  have hmap : (parts.map fun (i, x) => (i, a.eval x)).toList = parts.toList.map fun (i, x) => (i, a.eval x) := by simp
  rcases hps with ⟨fields, m, hu, hpl, hc⟩ | ⟨n, e, sz, hu, hsz, hc⟩
  · obtain ⟨e1, e2⟩ := cPartsS_spec hc
    obtain ⟨p1, p2⟩ := run_places' (w := w) hpl
    obtain ⟨ws, k1, k2, k3⟩ := fill_spec hev (fun i => m.toArray[i]?) parts.toList ps z zv.cells r e1 (fun k h h' => by
      obtain ⟨⟨fd, q1, q2, q3⟩, q4⟩ := e2 k h h'
      obtain ⟨i', q5, q6⟩ := p2 parts.toList[k].1 fd (by simpa using q1)
      unfold tySz at q3
      rw [q5] at q3
      dsimp only at q3
      split at q3
      · rename_i h0
        simp only [Option.some.injEq] at q3
        refine ⟨by simp only [List.getElem?_toArray, q6, q2, q3], q4, by rw [← q3]; exact h0⟩
      · cases q3) hpw h1 hr
    refine ⟨.agg ws, ?_, agg_of_pw k2 k3⟩
    have hmp : (fields.mapM fun f => do pure (f.offset, ← sizeOf f.type) : Sem (Array (Nat × Nat))).run P w = .ok m.toArray w := by
      rw [Array.mapM_eq_mapM_toList]
      simp only [Sem.run_map, p1, Result.andThen_ok]
    simp only [Instr.build, Sem.run_bind, hz2, Result.andThen_ok, run_underlying hu, hmp, hmap, k1]
    rfl
  · obtain ⟨e1, e2⟩ := cPartsA_spec hc
    obtain ⟨s1, s2, -⟩ := tySz_spec (P := P) (w := w) hsz
    obtain ⟨ws, k1, k2, k3⟩ := fill_spec hev (fun i => some (i * sz, sz)) parts.toList ps z zv.cells r e1 (fun k h h' => by
      obtain ⟨q1, q2, q3⟩ := e2 k h h'
      exact ⟨by rw [q1, q2], q3, by rw [q2]; exact s2⟩) hpw h1 hr
    refine ⟨.agg ws, ?_, agg_of_pw k2 k3⟩
    simp only [Instr.build, Sem.run_bind, hz2, Result.andThen_ok, run_underlying hu, s1, hmap, k1]
    rfl

end
end Go.Abs
