/- Comparisons of structs and of arrays. -/
import Derived.Test.YtiigojkfojnedaaGreatDoorXRa
set_option linter.unusedVariables false
set_option linter.unusedSimpArgs false
namespace Go.Abs

section
variable {P : Program} {base : Nat} {LC : LCR} {g : Gh} {lb : LB} {own : OW} {loc : Nat → Option (Nat × Blk)} {mem : Mem} {w : World} {esc : Nat → Bool} {callv : CallV}
variable {ev : Opd → AV} {a : Act} {o : Oper} {ao : AO} {v : AV} {u : Upd} {m' : Mem}

/-- One cell of a basic type, compared. -/
def cellEq : KK → AV → AV → Option Bool
  | .int, .int k a, .int k' b => if k = k' then some (decide (a = b)) else none
  | .str, .str a, .str b => some (decide (a = b))
  | .bool, .bool a, .bool b => some (a == b)
  | _, _, _ => none

theorem eqCells_cons {k : KK} {ks : List KK} {l m : List AV} {r : Bool} (h : eqCells (k :: ks) l m = some r) :
    ∃ x y l' m' r1 r2, l = x :: l' ∧ m = y :: m' ∧ cellEq k x y = some r1 ∧ eqCells ks l' m' = some r2 ∧ r = (r1 && r2) := by
  cases k <;> cases l with
  | nil => simp [eqCells] at h
  | cons x l =>
    cases m with
    | nil => cases x <;> simp [eqCells] at h
    | cons y m =>
      cases x <;> cases y <;> simp only [eqCells] at h <;> first | (cases h; done) | skip
      all_goals first
        | (split at h
           · rename_i hk
             simp only [Option.map_eq_some_iff] at h
             obtain ⟨r2, h2, rfl⟩ := h
             exact ⟨_, _, _, _, _, r2, rfl, rfl, by simp only [cellEq, hk, if_true], h2, rfl⟩
           · cases h)
        | (simp only [Option.map_eq_some_iff] at h
           obtain ⟨r2, h2, rfl⟩ := h
           exact ⟨_, _, _, _, _, r2, rfl, rfl, rfl, h2, rfl⟩)

theorem run_cellEq {k : KK} {t : TypeId} (hk : keyKind P t = some k) {x y : AV} {xv yv : Value} (hx : VR g lb x xv) (hy : VR g lb y yv) {r : Bool} (h : cellEq k x y = some r) (d : Nat) :
    (Op.equalIn (d + 1) t xv yv).run P w = .ok r w := by
  unfold keyKind at hk
  split at hk
  · rename_i q hu; cases hk
    cases x <;> cases y <;> simp only [cellEq] at h <;> first | (cases h; done) | skip
    split at h
    · rename_i hkk; subst hkk; cases h
      cases hx; cases hy
      rw [run_equalIn_int w d t _ _ _ _ hu]; rfl
    · cases h
  · rename_i hu; cases hk
    cases x <;> cases y <;> simp only [cellEq] at h <;> first | (cases h; done) | skip
    cases h
    cases hx; cases hy
    rename_i b1 h1 b2 h2
    rw [run_equalIn_string w d t _ _ hu, str_eq h1 h2]
  · rename_i hu; cases hk
    cases x <;> cases y <;> simp only [cellEq] at h <;> first | (cases h; done) | skip
    cases h
    cases hx; cases hy
    exact run_equalIn_bool d hu _ _
  · cases hk

theorem keyKind_ag {t : TypeId} {k : KK} (h : keyKind P t = some k) : (isAgg t).run P w = .ok false w := by
  unfold keyKind at h
  split at h
  · rename_i hu; simp [isAgg, run_underlying hu]
  · rename_i hu; simp [isAgg, run_underlying hu]
  · rename_i hu; simp [isAgg, run_underlying hu]
  · cases h

theorem run_part1 {t : TypeId} {k : KK} (h : keyKind P t = some k) {cs : Array Value} {off : Nat} (ho : off < cs.size) : (part t cs off).run P w = .ok cs[off] w := by
  simp [part, keyKind_ag h, Array.getElem?_eq_getElem ho]

theorem eqFields_spec (d : Nat) {xs ys : Array Value} : ∀ (fs : List Field) (k : Nat) (ks : List KK) (l m : List AV) (r : Bool), flatFields P k fs = some ks → eqCells ks l m = some r →
    PW (VR g lb) l (xs.toList.drop k) → PW (VR g lb) m (ys.toList.drop k) → (Op.eqFields (d + 1) xs ys fs).run P w = .ok r w
  | [], k, ks, l, m, r, hf, he, _, _ => by
    cases hf
    cases l <;> cases m <;> simp [eqCells] at he
    subst he; rfl
  | f :: fs, k, ks, l, m, r, hf, he, hx, hy => by
    simp only [flatFields] at hf
    split at hf
    · rename_i kk ks' h1 h2 h3
      split at hf
      · rename_i hc
        obtain ⟨hname, rfl⟩ := hc
        cases hf
        obtain ⟨x, y, l', m', r1, r2, rfl, rfl, e1, e2, rfl⟩ := eqCells_cons he
        have hkx : f.offset < xs.size := by have := hx.1; simp at this; omega
        have hky : f.offset < ys.size := by have := hy.1; simp at this; omega
        have vx := hx.2 0 (by simp) (by simp; omega)
        have vy := hy.2 0 (by simp) (by simp; omega)
        simp only [List.getElem_cons_zero, List.getElem_drop, Nat.add_zero, Array.getElem_toList] at vx vy
        have hx' : PW (VR g lb) l' (xs.toList.drop (f.offset + 1)) := by
          have := hx.drop 1
          simpa [List.drop_drop] using this
        have hy' : PW (VR g lb) m' (ys.toList.drop (f.offset + 1)) := by
          have := hy.drop 1
          simpa [List.drop_drop] using this
        have ih := eqFields_spec d fs (f.offset + 1) ks' l' m' r2 h3 e2 hx' hy'
        have hce := run_cellEq (P := P) (w := w) h1 vx vy e1 d
        simp only [Op.eqFields]
        rw [if_pos hname]
        simp only [Sem.run_bind, run_part1 h1 hkx, run_part1 h1 hky, Result.andThen_ok, hce]
        cases r1
        · rfl
        · simp only [Bool.not_true, Bool.false_eq_true, if_false, Bool.true_and]; exact ih
      · cases hf
    · cases hf

theorem arr_eq (d : Nat) {e : TypeId} {k : KK} (hk : keyKind P e = some k) {xs ys : Array Value} : ∀ (n i : Nat) (l m : List AV) (r : Bool), eqCells (List.replicate n k) l m = some r →
    PW (VR g lb) l ((xs.toList.drop i).take n) → PW (VR g lb) m ((ys.toList.drop i).take n) →
    (forIn (m := Sem) (List.range' i n) ((none, ()) : Option Bool × Unit) fun j _ => do
        if !(← Op.equalIn (d + 1) e (← part e xs (j * 1)) (← part e ys (j * 1))) then pure (ForInStep.done (some false, ())) else pure (ForInStep.yield (none, ()))).run P w =
      .ok (if r then (none, ()) else (some false, ())) w
  | 0, i, l, m, r, he, _, _ => by
    cases l <;> cases m <;> simp [eqCells] at he
    subst he; rfl
  | n + 1, i, l, m, r, he, hx, hy => by
    rw [List.replicate_succ] at he
    obtain ⟨x, y, l', m', r1, r2, rfl, rfl, e1, e2, rfl⟩ := eqCells_cons he
    have hkx : i < xs.size := by have := hx.1; simp at this; omega
    have hky : i < ys.size := by have := hy.1; simp at this; omega
    have vx := hx.2 0 (by simp) (by simp; omega)
    have vy := hy.2 0 (by simp) (by simp; omega)
    simp only [List.getElem_cons_zero, List.getElem_take, List.getElem_drop, Nat.add_zero, Array.getElem_toList] at vx vy
    have hx' : PW (VR g lb) l' ((xs.toList.drop (i + 1)).take n) := by
      have := hx.drop 1
      simpa [List.drop_take, List.drop_drop] using this
    have hy' : PW (VR g lb) m' ((ys.toList.drop (i + 1)).take n) := by
      have := hy.drop 1
      simpa [List.drop_take, List.drop_drop] using this
    have ih := arr_eq d hk n (i + 1) l' m' r2 e2 hx' hy'
    have hce := run_cellEq (P := P) (w := w) hk vx vy e1 d
    rw [List.range'_succ]
    simp only [List.forIn_cons, Sem.run_bind, Nat.mul_one, run_part1 hk hkx, run_part1 hk hky, Result.andThen_ok, hce]
    cases r1
    · rfl
    · simp only [Bool.not_true, Bool.false_eq_true, if_false, Bool.true_and, Sem.run_pure, Result.andThen_ok]
      simp only [Nat.mul_one] at ih
      exact ih


theorem flat_spec {t : TypeId} {ks : List KK} (hf : flatTy P t = some ks) {l m : List AV} {xs ys : Array Value} {r : Bool} (hx : VR g lb (.agg l) (.agg xs)) (hy : VR g lb (.agg m) (.agg ys)) (he : eqCells ks l m = some r) :
    P.eqGuardType P.depth t = false ∧ (Op.equalIn 10000 t (.agg xs) (.agg ys)).run P w = .ok r w := by
  unfold flatTy at hf
  split at hf
  · cases hf
  · rename_i hgd
    refine ⟨by simpa using hgd, ?_⟩
    have px := (pw_agg hx).1
    have py := (pw_agg hy).1
    split at hf
    · rename_i fields hu
      split at hf
      · cases hf
      · rename_i hst
        have hfo : P.fieldsOf t = fields := by simp [Program.fieldsOf, hu]
        rw [show (10000 : Nat) = 9998 + 1 + 1 from rfl, run_equalIn_struct w (9998 + 1) t xs ys (by rw [hfo]; exact hu) (by simpa using hst), hfo]
        exact eqFields_spec 9998 fields.toList 0 ks l m r hf he (by simpa using px) (by simpa using py)
    · rename_i n e hu
      split at hf
      · rename_i kk hk hs
        cases hf
        obtain ⟨s1, -, -⟩ := tySz_spec (P := P) (w := w) hs
        have hlx : l.length = n ∧ m.length = n := by
          have : ∀ (n : Nat) (l m : List AV) (r : Bool), eqCells (List.replicate n kk) l m = some r → l.length = n ∧ m.length = n := by
            intro n
            induction n with
            | zero => intro l m r h; cases l <;> cases m <;> simp [eqCells] at h; exact ⟨rfl, rfl⟩
            | succ n ih =>
              intro l m r h
              rw [List.replicate_succ] at h
              obtain ⟨_, _, l', m', _, _, rfl, rfl, _, h2, _⟩ := eqCells_cons h
              have := ih _ _ _ h2
              exact ⟨by simp [this.1], by simp [this.2]⟩
          exact this n l m r he
        have ha := arr_eq (P := P) (w := w) (xs := xs) (ys := ys) 9998 hk n 0 l m r he (by
          have := px.1
          rw [List.drop_zero, List.take_of_length_le (by omega)]; exact px) (by
          have := py.1
          rw [List.drop_zero, List.take_of_length_le (by omega)]; exact py)
        rw [show (10000 : Nat) = 9998 + 1 + 1 from rfl, Op.equalIn]
        simp only [Sem.run_bind, run_underlying hu, Result.andThen_ok, s1]
        rw [Std.Legacy.Range.forIn_eq_forIn_range']
        simp only [Std.Legacy.Range.size, Nat.sub_zero, Nat.add_sub_cancel, Nat.div_one]
        rw [ha]
        cases r <;> rfl
      · cases hf
    · cases hf

theorem op_eqs (hev : EvOK g lb ev a) (hm : MemR g own LC mem w) (hl : LocR g lb own loc w) (ho : OwnR base own w) {op : BinOp} {t ty : TypeId} {x y : Operand} (hop : o.op = .binOp op t x y ty)
    {x' y' : Opd} (hx : cOpd x = some x') (hy : cOpd y = some y') {ks : List KK} (hf : flatTy P t = some ks) {neg : Bool} (hn : op = if neg then .neq else .eql)
    (hr : aop ev loc mem callv o.dst (.eqs neg ks x' y') = some (v, u, m')) : OpOK P base LC g lb own loc w a o v u m' := by
  simp only [aop] at hr
  split at hr
  · rename_i l m e1 e2
    simp only [Option.map_eq_some_iff, Prod.mk.injEq] at hr
    obtain ⟨r, hr, rfl, rfl, rfl⟩ := hr
    have k1 := hev _ _ hx
    have k2 := hev _ _ hy
    rw [e1] at k1; rw [e2] at k2
    cases hxe : a.eval x <;> rw [hxe] at k1 <;> (try (cases k1; done))
    cases hye : a.eval y <;> rw [hye] at k2 <;> (try (cases k2; done))
    obtain ⟨h1, h2⟩ := flat_spec (P := P) (w := w) hf k1 k2 hr
    refine .pure (x := .bool (if neg then !r else r)) hm hl ho ?_ (.bool _ _)
    cases neg <;> simp only [Bool.false_eq_true, if_false, if_true] at hn <;> subst hn
    · simp only [execOp, hop, hxe, hye, Sem.run_bind, run_eqGuard_agg w .eql t x y _ _ h1, Result.andThen_ok, run_eql_struct, h2]; rfl
    · simp only [execOp, hop, hxe, hye, Sem.run_bind, run_eqGuard_agg w .neq t x y _ _ h1, Result.andThen_ok, run_neq_struct, h2]; rfl
  · cases hr

theorem op_insert (hev : EvOK g lb ev a) (hm : MemR g own LC mem w) (hl : LocR g lb own loc w) (ho : OwnR base own w) {t : TypeId} {x y z : Operand} (hop : o.op = .insert t x y z)
    (hc : copO P esc o = some ao) (hr : aop ev loc mem callv o.dst ao = some (v, u, m')) : OpOK P base LC g lb own loc w a o v u m' := by
  have e1 : copO P esc { o with op := .mapUpdate t x y z } = some ao := by rw [← hc]; simp only [copO, hop]
  have e2 : execOp a.eval o = execOp a.eval { o with op := .mapUpdate t x y z } := by simp only [execOp, hop]
  have := op_mapup (o := { o with op := .mapUpdate t x y z }) hev hm hl ho rfl e1 hr
  unfold OpOK at this ⊢
  rw [e2]; exact this

theorem op_mkmap' (hm : MemR g own LC mem w) (hl : LocR g lb own loc w) (ho : OwnR base own w) {t : TypeId} {r : Operand} (hop : o.op = .makeMap t (some r))
    (hc : copO P esc o = some ao) (hr : aop ev loc mem callv o.dst ao = some (v, u, m')) : OpOK P base LC g lb own loc w a o v u m' := by
  cases r with
  | const c =>
    cases c with
    | int k n =>
      simp only [copO, hop] at hc
      split at hc
      · rename_i kt et hu
        cases hc
        have e1 : copO P esc { o with op := .makeMap t none } = some .mkmap := by simp only [copO]
        have e2 : (execOp a.eval o).run P w = (execOp a.eval { o with op := .makeMap t none }).run P w := by
          simp only [execOp, hop, Option.map_some, Option.map_none, Instr.makeMap, Act.eval, Sem.run_bind, run_underlying hu, Result.andThen_ok, asInt, asIntOf, Sem.run_pure]
        have := op_mkmap (a := a) (o := { o with op := .makeMap t none }) hm hl ho rfl e1 hr
        unfold OpOK at this ⊢
        rw [e2]; exact this
      · cases hc
    | _ => simp only [copO, hop] at hc; cases hc
  | _ => simp only [copO, hop] at hc; cases hc

/-- **Each operation that is no call of a function: what the executor says is what the machine does.** -/
theorem op_sound (hev : EvOK g lb ev a) (hm : MemR g own LC mem w) (hl : LocR g lb own loc w) (ho : OwnR base own w) (hc : copO P esc o = some ao) (hnc : ∀ f args, ao ≠ .call f args)
    (hr : aop ev loc mem callv o.dst ao = some (v, u, m')) : OpOK P base LC g lb own loc w a o v u m' := by
  cases hop : o.op with
  | move x => exact op_mv hev hm hl ho (.inl hop) hc hr
  | assign x => exact op_mv hev hm hl ho (.inr hop) hc hr
  | pick c x y => exact op_pick hev hm hl ho hop hc hr
  | alloc e => exact op_alloc hm hl ho hop hc hr
  | box e x => exact op_box hev hm hl ho hop hc hr
  | build t ps => exact op_build hev hm hl ho hop hc hr
  | buildSlice t n ps => exact op_bslice hev hm hl ho hop hc hr
  | load t x => exact op_ld hev hm hl ho hop hc hr
  | store t x y => exact op_st hev hm hl ho hop hc hr
  | nilCheck x => exact op_nilck hev hm hl ho hop hc hr
  | unOp op t x => exact op_un hev hm hl ho hop hc hr
  | convert s d x => exact op_conv hev hm hl ho hop hc hr
  | makeInterface t x => exact op_mkif hev hm hl ho hop hc hr
  | makeFunc f x y => exact op_mkfn hev hm hl ho hop hc hr
  | fieldAddr s x f => exact op_fa hev hm hl ho hop hc hr
  | field s x f => exact op_fld hev hm hl ho hop hc hr
  | indexAddr t x i => exact op_index hev hm hl ho hop hc hr
  | index t x i => exact op_ix hev hm hl ho hop hc hr
  | lookup t x i ok => exact op_lookup hev hm hl ho hop hc hr
  | mapUpdate t x y z => exact op_mapup hev hm hl ho hop hc hr
  | slice t x lo hi mx => exact op_slc hev hm hl ho hop hc hr
  | extract x k => exact op_ext hev hm hl ho hop hc hr
  | range t x => exact op_rng hev hm hl ho hop hc hr
  | makeMap t r =>
    cases r with
    | none => exact op_mkmap hm hl ho hop hc hr
    | some r => exact op_mkmap' hm hl ho hop hc hr
  | insert t x y z => exact op_insert hev hm hl ho hop hc hr
  | next x b =>
    cases b with
    | true => exact op_nxt hev hm hl ho hop hc hr
    | false => simp only [copO, hop] at hc; cases hc
  | binOp op t x y ty =>
    have hc0 := hc
    simp only [copO, hop] at hc
    split at hc
    · rename_i h1 h2 h3; cases hc; exact op_bin hev hm hl ho hop h2 h3 hr
    · rename_i h1 h2 h3; cases hc; exact op_bin hev hm hl ho hop h2 h3 hr
    · rename_i h1 h2 h3
      split at hc
      · cases hc; exact op_eqb hev hm hl ho hop h2 h3 h1 (neg := false) rfl hr
      · cases hc; exact op_eqb hev hm hl ho hop h2 h3 h1 (neg := true) rfl hr
      · cases hc
    · rename_i h1 h2 h3
      split at hc
      · rename_i hf; cases hc; exact op_eqs hev hm hl ho hop h2 h3 hf (neg := false) rfl hr
      · rename_i hf; cases hc; exact op_eqs hev hm hl ho hop h2 h3 hf (neg := true) rfl hr
      · cases hc
    · rename_i h1 h2 h3
      split at hc
      · rename_i hf; cases hc; exact op_eqs hev hm hl ho hop h2 h3 hf (neg := false) rfl hr
      · rename_i hf; cases hc; exact op_eqs hev hm hl ho hop h2 h3 hf (neg := true) rfl hr
      · cases hc
    · rename_i h1 h2 h3; exact op_isnil hev hm hl ho hop h2 hc (fun v hv => ⟨⟨_, h1⟩, hv⟩) hr
    · rename_i h1 h2 h3; exact op_isnil hev hm hl ho hop h2 hc (fun v hv => ⟨⟨_, h1⟩, hv⟩) hr
    · rename_i h1 h2 h3; exact op_isnil hev hm hl ho hop h2 hc (fun v hv => ⟨⟨_, _, _, h1⟩, hv⟩) hr
    · rename_i h1 h2 h3; exact op_isnil hev hm hl ho hop h2 hc (fun v hv => ⟨⟨_, h1⟩, hv⟩) hr
    · rename_i h1 h2 h3; exact op_isnil hev hm hl ho hop h2 hc (fun v hv => ⟨⟨_, _, h1⟩, hv⟩) hr
    · cases hc
  | makeSlice t x y => exact op_mkslc hev hm hl ho hop hc hr
  | call c =>
    cases hb : c.callee with
    | value f =>
      simp only [copO, hop, hb] at hc
      split at hc
      · cases hc; exact absurd rfl (hnc _ _)
      · cases hc
    | invoke r n => simp only [copO, hop, hb] at hc; cases hc
    | builtin b =>
      cases b <;> first
        | exact op_app hev hm hl ho hop hb hc hr
        | exact op_len hev hm hl ho hop hb hc hr
        | exact op_del hev hm hl ho hop hb hc hr
        | exact op_cpy hev hm hl ho hop hb hc hr
        | exact op_clr hev hm hl ho hop hb hc hr
        | exact op_max hev hm hl ho hop (.inl hb) hc hr
        | exact op_max hev hm hl ho hop (.inr hb) hc hr
        | (simp only [copO, hop, hb] at hc; cases hc)
  | _ => simp only [copO, hop] at hc; cases hc

end
end Go.Abs
