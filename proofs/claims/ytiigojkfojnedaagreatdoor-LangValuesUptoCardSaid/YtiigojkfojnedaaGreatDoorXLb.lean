/- Walks in the executor: calls, loops, by rules. -/
import Derived.Test.YtiigojkfojnedaaGreatDoorXLa
import Derived.Test.YtiigojkfojnedaaGreatDoorXCd
import Derived.ChangeArms
import Derived.ChangeShapes
set_option linter.unusedVariables false
set_option linter.unusedSimpArgs false
namespace Go.Abs

/-- A loop, by what holds ahead of each round. -/
theorem lpl_rule {b : St → Option (Ex × St)} {I : Nat → St → Prop} {Post : Ex × St → Prop} (n : Nat)
    (step : ∀ i s, i ≤ n → I i s → (∃ s', b s = some (.normal, s') ∧ i < n ∧ I (i + 1) s') ∨ (∃ r, b s = some r ∧ r.1 ≠ .normal ∧ Post r)) :
    ∀ k i s, i + k = n → I i s → ∃ r, lpl b s = some r ∧ Post r := by
  intro k
  induction k with
  | zero =>
    intro i s hi hI
    rcases step i s (by omega) hI with ⟨s', _, h, _⟩ | ⟨r, h1, h2, h3⟩
    · omega
    · exact ⟨r, lpl_out h1 h2, h3⟩
  | succ k ih =>
    intro i s hi hI
    rcases step i s (by omega) hI with ⟨s', h1, h, h2⟩ | ⟨r, h1, h2, h3⟩
    · obtain ⟨r, h3, h4⟩ := ih (i + 1) s' (by omega) h2
      exact ⟨r, by rw [lpl_normal h1]; exact h3, h4⟩
    · exact ⟨r, lpl_out h1 h2, h3⟩

theorem loop_rule {gl : Nat → AV} {c : CallV} {a : AC} {I : Nat → St → Prop} {Post : Ex × St → Prop} (n : Nat) {s : St} (h0 : I 0 s)
    (step : ∀ i s, i ≤ n → I i s → (∃ s', exec gl c lpl a s = some (.normal, s') ∧ i < n ∧ I (i + 1) s') ∨ (∃ r, exec gl c lpl a s = some r ∧ r.1 ≠ .normal ∧ Post r)) :
    ∃ r, exec gl c lpl (.loop a) s = some r ∧ Post r := by
  simp only [exec]
  exact lpl_rule n step n 0 s (by omega) h0

/-- What a piece of code comes to. -/
def Runs (gl : Nat → AV) (c : CallV) (a : AC) (s : St) (Q : Ex × St → Prop) : Prop := ∃ r, exec gl c lpl a s = some r ∧ Q r

theorem Runs.seq {gl : Nat → AV} {c : CallV} {a b : AC} {s : St} {M : St → Prop} {Q : Ex × St → Prop} (h : Runs gl c a s fun r => (r.1 = .normal ∧ M r.2) ∨ (r.1 ≠ .normal ∧ Q r)) (k : ∀ s', M s' → Runs gl c b s' Q) : Runs gl c (.seq a b) s Q := by
  obtain ⟨⟨e, s'⟩, h1, h2⟩ := h
  rcases h2 with ⟨rfl, h2⟩ | ⟨h2, h3⟩
  · obtain ⟨r, h3, h4⟩ := k s' h2
    exact ⟨r, by simp only [exec, h1]; exact h3, h4⟩
  · refine ⟨(e, s'), ?_, h3⟩
    simp only [exec, h1]
    cases e <;> simp_all

theorem Runs.seq' {gl : Nat → AV} {c : CallV} {a b : AC} {s : St} {M : St → Prop} {Q : Ex × St → Prop} (h : ∃ s', exec gl c lpl a s = some (.normal, s') ∧ M s') (k : ∀ s', M s' → Runs gl c b s' Q) : Runs gl c (.seq a b) s Q := by
  obtain ⟨s', h1, h2⟩ := h
  exact Runs.seq ⟨_, h1, .inl ⟨rfl, h2⟩⟩ k

theorem Runs.block {gl : Nat → AV} {c : CallV} {a : AC} {i : Nat} {s : St} {Q : Ex × St → Prop} (h : Runs gl c a s fun r => (r.1 = .exit i ∧ Q (.normal, r.2)) ∨ (r.1 ≠ .exit i ∧ Q r)) : Runs gl c (.block i a) s Q := by
  obtain ⟨⟨e, s'⟩, h1, h2⟩ := h
  rcases h2 with ⟨rfl, h2⟩ | ⟨h2, h3⟩
  · exact ⟨_, by simp only [exec, h1, if_true], h2⟩
  · refine ⟨(e, s'), ?_, h3⟩
    simp only [exec, h1]
    cases e with
    | exit j =>
      have : j ≠ i := fun he => h2 (by rw [he])
      simp only [this, if_false]
    | _ => rfl

theorem Runs.loop {gl : Nat → AV} {c : CallV} {a : AC} {I : Nat → St → Prop} {Q : Ex × St → Prop} (n : Nat) {s : St} (h0 : I 0 s)
    (step : ∀ i s, i ≤ n → I i s → (i < n ∧ ∃ s', exec gl c lpl a s = some (.normal, s') ∧ I (i + 1) s') ∨ (∃ r, exec gl c lpl a s = some r ∧ r.1 ≠ .normal ∧ Q r)) : Runs gl c (.loop a) s Q :=
  loop_rule n h0 fun i s hi hI => (step i s hi hI).imp (fun ⟨h1, s', h2, h3⟩ => ⟨s', h2, h1, h3⟩) id

theorem back_same (m : Mem) : m.back { blks := m.blks, touched := [] } = m := by
  cases m; simp [Mem.back, scrubs]
theorem back_more (m : Mem) (l : List Blk) : m.back { blks := m.blks ++ l, touched := [] } = m := by
  cases m; simp [Mem.back, scrubs]

theorem call_fn {C : Cfg} {f : FuncId} {g : AF} {args : List AV} {m : Mem} {ex : Ex} {s' : St} {l : List AV} (hp : C.prim f = none) (hf : C.fs f = some g) (hk : C.keep f = false)
    (hx : exec C.gl (cvl C) lpl g.code { env := args.map (exp m.blks.length false), loc := [], mem := { blks := m.blks, touched := [] } } = some (ex, s')) (hex : ∀ i, ex ≠ .exit i) (hl : gets s' g.results = some l) :
    cvl C (.fn (.func f) [] []) args m = some (frz s'.mem.blks m.blks.length 8 (tupled l), m.back s'.mem) := by
  apply cvl_body
  simp only [body, hp, hf, hk, List.nil_append, List.append_nil, hx]
  cases ex with
  | exit i => exact absurd rfl (hex i)
  | _ => simp only [fin, hl]; rfl

theorem call_keep {C : Cfg} {f : FuncId} {g : AF} {args cap : List AV} {m : Mem} {ex : Ex} {s' : St} {l : List AV} (hp : C.prim f = none) (hf : C.fs f = some g) (hk : C.keep f = true)
    (hx : exec C.gl (cvl C) lpl g.code { env := (args ++ cap).map (exp m.blks.length true), loc := [], mem := { blks := m.blks, touched := [] } } = some (ex, s')) (hex : ∀ i, ex ≠ .exit i) (hl : gets s' g.results = some l) :
    cvl C (.fn (.func f) [] cap) args m = some (exp s'.mem.blks.length true (tupled l), { blks := s'.mem.blks, touched := m.touched ++ s'.mem.touched }) := by
  apply cvl_body
  simp only [body, hp, hf, hk, List.nil_append, hx]
  cases ex with
  | exit i => exact absurd rfl (hex i)
  | _ => simp only [fin, hl]; rfl

/-- A function that makes no memory of its own. -/
theorem call_runs {C : Cfg} {f : FuncId} {g : AF} {args : List AV} {m : Mem} {v : AV} (hp : C.prim f = none) (hf : C.fs f = some g) (hk : C.keep f = false)
    (hx : Runs C.gl (cvl C) g.code { env := args.map (exp m.blks.length false), loc := [], mem := { blks := m.blks, touched := [] } } fun r =>
      (∀ i, r.1 ≠ .exit i) ∧ (∃ bs, r.2.mem = { blks := m.blks ++ bs, touched := [] }) ∧ ∃ l, gets r.2 g.results = some l ∧ frz r.2.mem.blks m.blks.length 8 (tupled l) = v) : cvl C (.fn (.func f) [] []) args m = some (v, m) := by
  obtain ⟨⟨ex, s'⟩, h1, h2, ⟨bs, h3⟩, l, h4, h5⟩ := hx
  rw [call_fn hp hf hk h1 h2 h4]
  dsimp only at h3 h5
  rw [h5, h3, back_more]

end Go.Abs

/- What reads as data is what the executor's values say: slices. -/
namespace Go.Abs

/-- All cells of a world, as what never turns. -/
def ghW (w : World) : Gh := ⟨fun b o => w.cell? ⟨b, o, none⟩, fun _ => none, fun _ _ => none⟩

theorem memR_ghW (w : World) (own : OW) (LC : LCR) : MemR (ghW w) own LC { blks := [], touched := [] } w :=
  ⟨fun _ _ h => (by cases h), fun _ _ _ h => (by cases h), fun _ _ h => (by simp at h), fun _ _ _ h => h⟩

theorem ownR_none (w : World) : OwnR w.heap.size (fun _ => none) w := ⟨fun _ _ h => (by cases h), Nat.le_refl _⟩

section
variable {H : Type} {enc : TypeId × Value → H} {P : Program} {w : World} {base : Nat} {spare : Nat → Bool} {held : Bool}

theorem vr_slice {t e : TypeId} (hu : P.underlying t = some (.slice e)) {A : AV → DataW H → Prop} {sz : Nat} (hsz : P.cellsOf e = sz) (h0 : 0 < sz) {fuel : Nat} {cs : List Value} {x : DataW H × List MemPlace}
    (helem : ∀ n, n < fuel → ∀ cs y, DataW.trod enc P w base spare held n e cs = some y → cs.length = sz →
      ∃ el, A el y.1 ∧ PW (VR (ghW w) noLB) el.cells cs ∧ ∀ v ∈ cs, v.oneCell' = true)
    (h : DataW.trod enc P w base spare held fuel t cs = some x) :
    ∃ v : Value, cs = [v] ∧ v.oneCell' = true ∧ ((VR (ghW w) noLB (.list .nil []) v ∧ x.1 = .nil) ∨ ∃ (l : List AV) (ds rest : List (DataW H)), VR (ghW w) noLB (.list .any l) v ∧ x.1 = .slice ds rest ∧ l.length = ds.length ∧
      ∀ i (h : i < l.length) (h' : i < ds.length), A l[i] ds[i]) := by
  rcases DataW.trod_slice hu h with ⟨rfl, rfl⟩ | ⟨a, len, cap, elems, rest, n, rfl, rfl, rfl, hb, hlc, hcm, hel, hread, -, -⟩
  · exact ⟨_, rfl, rfl, .inl ⟨.listNil _, rfl⟩⟩
  · rw [hsz] at hread
    have each : ∀ i (hi : i < len), ∃ el cs, A el (elems[i]'(by omega)).1 ∧ PW (VR (ghW w) noLB) el.cells cs ∧ (∀ v ∈ cs, v.oneCell' = true) ∧ cs.length = sz ∧ ∀ j, j < sz → w.cell? ((a.add (i * sz)).add j) = cs[j]? := by
      intro i hi
      have hr := hread i hi
      rw [List.getElem?_eq_getElem (by omega)] at hr
      obtain ⟨cs', hc', ht⟩ := Option.bind_eq_some_iff.1 hr
      obtain ⟨-, hl, hcell⟩ := World.cells?_some hc'
      obtain ⟨el, k1, k2, k3⟩ := helem n (by omega) cs' _ ht hl
      exact ⟨el, cs', k1, k2, k3, hl, hcell⟩
    by_cases hlen : len = 0
    · subst hlen
      exact ⟨_, rfl, rfl, .inr ⟨[], _, _, .listE _ _ _ _ (.inl rfl), rfl, by simpa using hel.symm, fun i h => absurd h (Nat.not_lt_zero _)⟩⟩
    · obtain ⟨b, o, spot⟩ := a
      have hspot : spot = none := by
        obtain ⟨el, cs', -, -, -, hl, hcell⟩ := each 0 (by omega)
        have g0 := hcell 0 h0
        rw [List.getElem?_eq_getElem (by omega)] at g0
        simpa [Addr.add] using World.cell?_spot g0
      subst hspot
      have hex : ∃ F : Nat → AV × List Value, ∀ i (hi : i < len), A (F i).1 (elems[i]'(by omega)).1 ∧ PW (VR (ghW w) noLB) (F i).1.cells (F i).2 ∧ (∀ v ∈ (F i).2, v.oneCell' = true) ∧ (F i).2.length = sz ∧
          ∀ j, j < sz → w.cell? ⟨b, o + (i * sz + j), none⟩ = (F i).2[j]? := by
        refine ⟨fun i => if hi : i < len then ((each i hi).choose, (each i hi).choose_spec.choose) else (.undef, []), fun i hi => ?_⟩
        simp only [dif_pos hi]
        obtain ⟨k1, k2, k3, k4, k5⟩ := (each i hi).choose_spec.choose_spec
        refine ⟨k1, k2, k3, k4, fun j hj => ?_⟩
        rw [← k5 j hj, Addr.add_mid, Addr.add_mid, Nat.add_assoc]
      obtain ⟨F, hF⟩ := hex
      refine ⟨_, rfl, rfl, .inr ⟨(List.range len).map fun i => (F i).1, _, _, ?_, rfl, by simp [hel], fun i hi hi' => ?_⟩⟩
      · refine .list _ .any _ b o sz len cap (fun i j => (F i).2.getD j Go.undef) (by simp) hlc trivial (fun e he => ?_) (fun i hi j hj => ?_) (fun i hi j hj => ?_)
        · obtain ⟨i, hi, rfl⟩ := List.mem_map.1 he
          have hi := List.mem_range.1 hi
          obtain ⟨k1, k2, k3, k4, k5⟩ := hF i hi
          rw [k2.1, k4]
        · obtain ⟨k1, k2, k3, k4, k5⟩ := hF i hi
          have e1 : (F i).2[j]? = some (F i).2[j] := List.getElem?_eq_getElem (by omega)
          refine ⟨?_, ?_⟩
          · show w.cell? ⟨b, o + (i * sz + j), none⟩ = _
            rw [k5 j hj, e1, List.getD_eq_getElem?_getD, e1]; rfl
          · rw [List.getD_eq_getElem?_getD, e1]; exact k3 _ (List.getElem_mem _)
        · have hi' : i < len := by simpa using hi
          obtain ⟨k1, k2, k3, k4, k5⟩ := hF i hi'
          simp only [List.getElem_map, List.getElem_range] at hj ⊢
          have hj2 : j < (F i).2.length := by rw [← k2.1]; exact hj
          have := k2.2 j hj hj2
          rw [List.getD_eq_getElem?_getD, List.getElem?_eq_getElem hj2]
          exact this
      · have hi2 : i < len := by simpa using hi
        simp only [List.getElem_map, List.getElem_range]
        exact (hF i hi2).1

end
end Go.Abs
