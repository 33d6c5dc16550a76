/- Rounds of a loop over a function; and all calls at once. -/
import Derived.Test.YtiigojkfojnedaaGreatDoorXCc
set_option linter.unusedVariables false
set_option linter.unusedSimpArgs false
namespace Go.Abs

section
variable {F : Fence} {n : Nat} {P : Program} {esc : Nat → Bool} {N : Nat} {gl : Nat → AV} {base : Nat} {LC : LCR} {ent : Nat} {callv : CallV}
variable {g : Gh} {lb : LB} {own : OW} {s : St} {a : Act} {w : World}

theorem ls_some {m : Mem} {l : Nat} {st : LS} (h : m.ls l = some st) : ∃ e p q c, m.blks[l]? = some (.loop e p q c st) := by
  unfold Mem.ls at h
  split at h
  · rename_i e p q c st' he; cases h; exact ⟨e, p, q, c, he⟩
  · cases h

theorem setLS_sound (hs : SR gl base N LC ent g lb own s a w) {l b : Nat} (hb : g.mb l = some b) {st0 : LS} (hls : s.mem.ls l = some st0) {st : LS} {L L' : Loop} (hL : w.heap[b]? = some (.loop L))
    (h1 : L'.tmps = L.tmps) (h2 : L'.params = L.params) (h3 : L'.assign = L.assign) (h4 : L'.body = L.body) (hst : LSR st L') :
    ∃ g' lb' own', Steps' g own w g' own' (setObjW w b (.loop L')) ∧ SR gl base N LC ent g' lb' own' { s with mem := s.mem.setLS l st } a (setObjW w b (.loop L')) := by
  obtain ⟨e, p, q, c, hblk⟩ := ls_some hls
  obtain ⟨b', b1, b2, b3, L2, N2, b4, b5, b6, b7, b8, b9, b10, b11, b12⟩ := hs.mem.blk l _ hblk
  rw [hb] at b1; cases b1
  rw [hL] at b4; cases b4
  have hid : l < s.mem.blks.length := (List.getElem?_eq_some_iff.1 hblk).1
  have hp := setObj_post (x := .loop L') (blk := .loop e p q c st) hs.mem hs.loc hs.own b2 hid b3
    ⟨b, hb, b2, b3, L', N2, setObjW_at hL _, by rw [h1]; exact b5, by rw [h2]; exact b6, by rw [h1]; exact b7, b8, by rw [h3]; exact b9, by rw [h4]; exact b10, hst, b12⟩
  obtain ⟨g', lb', own', k1, k2⟩ := hs.after (dst := none) rfl hp
  refine ⟨g', lb', own', k1, ?_⟩
  have : s.mem.setLS l st = s.mem.put l (.loop e p q c st) true := by simp only [Mem.setLS, hblk, Mem.put, if_true]
  rw [this]; exact k2

theorem begin_sound (hs : SR gl base N LC ent g lb own s a w) {l b : Nat} (hb : g.mb l = some b) (hls : s.mem.ls l = some .ready) :
    ∃ w', (Instr.beginRound b).run P w = .ok () w' ∧ ∃ g' lb' own', Steps' g own w g' own' w' ∧ SR gl base N LC ent g' lb' own' { s with mem := s.mem.setLS l .busy } a w' := by
  obtain ⟨e, p, q, c, hblk⟩ := ls_some hls
  obtain ⟨b', b1, b2, b3, L, N2, b4, b5, b6, b7, b8, b9, b10, b11, b12⟩ := hs.mem.blk l _ hblk
  rw [hb] at b1; cases b1
  obtain ⟨g', lb', own', k1, k2⟩ := setLS_sound hs hb hls (st := .busy) (L' := { L with state := .busy }) b4 rfl rfl rfl rfl rfl
  refine ⟨_, ?_, g', lb', own', k1, k2⟩
  have q1 : (getObj b).run P w = .ok (.loop L) w := by simp only [getObj, Sem.run, b4]
  have q2 : ∀ y, (setObj b y).run P w = .ok () (setObjW w b y) := fun y => by simp only [setObj, Sem.run, b4]; rfl
  simp only [Instr.beginRound, Instr.getLoop, Sem.run_bind, q1, Result.andThen_ok, Sem.run_pure, q2, b11.1]

theorem end_sound (hs : SR gl base N LC ent g lb own s a w) {l b : Nat} (hb : g.mb l = some b) (hls : s.mem.ls l = some .busy) {jump : Option Code} {st : LS}
    (hj : (jump = none ∧ st = .ready) ∨ (jump = some .ret ∧ st = .done none) ∨ ∃ i, jump = some (.exit i) ∧ st = .done (some i)) :
    ∃ w', (Instr.endRound b jump).run P w = .ok (.bool jump.isNone) w' ∧ ∃ g' lb' own', Steps' g own w g' own' w' ∧ SR gl base N LC ent g' lb' own' { s with mem := s.mem.setLS l st } a w' := by
  obtain ⟨e, p, q, c, hblk⟩ := ls_some hls
  obtain ⟨b', b1, b2, b3, L, N2, b4, b5, b6, b7, b8, b9, b10, b11, b12⟩ := hs.mem.blk l _ hblk
  rw [hb] at b1; cases b1
  obtain ⟨g', lb', own', k1, k2⟩ := setLS_sound hs hb hls (st := st) (L' := { L with state := if jump.isNone then .ready else .done, pending := jump }) b4 rfl rfl rfl rfl (by
    rcases hj with ⟨rfl, rfl⟩ | ⟨rfl, rfl⟩ | ⟨i, rfl, rfl⟩
    · exact ⟨rfl, rfl⟩
    · exact ⟨rfl, trivial⟩
    · exact ⟨rfl, rfl⟩)
  refine ⟨_, ?_, g', lb', own', k1, k2⟩
  have q1 : (getObj b).run P w = .ok (.loop L) w := by simp only [getObj, Sem.run, b4]
  have q2 : ∀ y, (setObj b y).run P w = .ok () (setObjW w b y) := fun y => by simp only [setObj, Sem.run, b4]; rfl
  simp only [Instr.endRound, Instr.getLoop, Sem.run_bind, q1, Result.andThen_ok, Sem.run_pure, q2]

theorem setPs_spec {N : Nat} : ∀ (ps : List Nat) (args : List AV) (vargs : List Value) (env : List AV) (tmps : Array Value), ps.length = args.length → PW (VR g noLB) args vargs → N ≤ tmps.size → (∀ p ∈ ps, p < N) →
    (∀ t, VR g noLB (getE env t) (tmps.getD t undef)) →
    (∀ t, VR g noLB (getE (setPs env ps args) t) (((ps.zip vargs).foldl (fun tmps (x : Nat × Value) => tmps.setIfInBounds x.1 x.2) tmps).getD t undef)) ∧
      N ≤ ((ps.zip vargs).foldl (fun tmps (x : Nat × Value) => tmps.setIfInBounds x.1 x.2) tmps).size := by
  intro ps
  induction ps with
  | nil =>
    intro args vargs env tmps hl hpw hN hp hv
    cases args with
    | nil => exact ⟨by simpa [setPs] using hv, by simpa using hN⟩
    | cons a args => simp at hl
  | cons p ps ih =>
    intro args vargs env tmps hl hpw hN hp hv
    cases args with
    | nil => simp at hl
    | cons x args =>
      cases vargs with
      | nil => exact absurd hpw.1 (by simp)
      | cons y vargs =>
        simp only [setPs, List.zip_cons_cons, List.foldl_cons]
        refine ih args vargs (setE env p x) (tmps.setIfInBounds p y) (by simpa using hl) ⟨by simpa using hpw.1, fun i hi hi' => by have := hpw.2 (i + 1) (by simpa using hi) (by simpa using hi'); simpa using this⟩ (by simpa using hN) (fun q hq => hp q (List.mem_cons_of_mem _ hq)) fun t => ?_
        rw [getE_setE, Array.getD_eq_getD_getElem?, Array.getElem?_setIfInBounds]
        have hpl := hp p (by simp)
        by_cases hpt : p = t
        · subst hpt
          rw [if_pos rfl, if_pos rfl, if_pos (by omega)]
          exact hpw.2 0 (by simp) (by simp)
        · rw [if_neg hpt, if_neg hpt, ← Array.getD_eq_getD_getElem?]
          exact hv t

theorem CallOK.inRound (h : CallOK F P base LC gl callv) (b : Nat) : CallOK (F.inRound b) P base LC gl callv :=
  fun n g lb own mem w fv args r m' fx vargs h1 h2 h3 h4 h5 h6 => h n g lb own mem w fv args r m' fx vargs h1 h2 h3 h4 h5 h6

/-- **A round.** -/
theorem round_sound (hF : ∀ f, F.fn f) (hd : F.depth = none) (hcall : CallOK F P base (LCof P) gl callv) (hbody : EnterOK P callv) (hK : KC callv) {m : Nat}
    {l b : Nat} (hb : g.mb l = some b) {mem : Mem} (hm : MemR g own (LCof P) mem w) (ho : OwnR base own w) (hgl : GlR g gl) {args : List AV} {vargs : Array Value} (hargs : PW (VR g lb) args vargs.toList) {r : AV} {m' : Mem}
    (hx : round (exec gl callv (aloop m)) l args mem = some (r, m')) :
    ∃ fid tmps asg bod, (Instr.yield b vargs).run P w = .ok (.round b fid tmps asg bod) w ∧
      RoundIn F n P b fid tmps asg bod w fun e w' => ∃ x, e = .returned x ∧ CallPost base (LCof P) gl g own w r m' x w' := by
  unfold round at hx
  split at hx
  · rename_i env ps asg body st hblk
    split at hx
    · rename_i hlen
      split at hx
      · rename_i s1 hasg
        split at hx
        · rename_i hls1
          obtain ⟨b', b1, b2, b3, L, N, b4, b5, b6, b7, b8, b9, b10, b11, b12⟩ := hm.blk l _ hblk
          rw [hb] at b1; cases b1
          obtain ⟨esc1, he1⟩ := b9
          obtain ⟨esc2, he2⟩ := b10
          have hsz : args.length = vargs.size := by simpa using hargs.1
          have hargs' : PW (VR g noLB) (args.map (exp mem.blks.length false)) vargs.toList := hargs.map _ fun a b h => (h.exp _ _).sub (g.cut_sub _)
          obtain ⟨v1, v2⟩ := setPs_spec ps (args.map (exp mem.blks.length false)) vargs.toList env L.tmps (by simpa using hlen) hargs' b7 b8 b5
          have hfold : (L.params.zip vargs).foldl (fun tmps (x : Nat × Value) => tmps.setIfInBounds x.1 x.2) L.tmps = (ps.zip vargs.toList).foldl (fun tmps (x : Nat × Value) => tmps.setIfInBounds x.1 x.2) L.tmps := by
            rw [← Array.foldl_toList, Array.toList_zip, b6]
          refine ⟨L.fn, (ps.zip vargs.toList).foldl (fun tmps (x : Nat × Value) => tmps.setIfInBounds x.1 x.2) L.tmps, L.assign, L.body, ?_, roundIn_of_wpIn (hF _) ?_⟩
          · have q1 : (getObj b).run P w = .ok (.loop L) w := by simp only [getObj, Sem.run, b4]
            have hps : vargs.size = L.params.size := by rw [b6]; simp; omega
            simp only [Instr.yield, Instr.getLoop, Sem.run_bind, q1, Result.andThen_ok, Sem.run_pure]
            rw [if_neg (by simp [hps]), ← hfold]
            rfl
          · have hs0 : SR gl base N (LCof P) w.heap.size g noLB (ownM own) { env := setPs env ps (args.map (exp mem.blks.length false)), loc := [], mem := mem }
                { tmps := (ps.zip vargs.toList).foldl (fun tmps (x : Nat × Value) => tmps.setIfInBounds x.1 x.2) L.tmps, defers := [] } w :=
              ⟨v1, hgl, v2, Marks.nil (Nat.le_refl _), hm.ownM, ⟨fun d v l h => (by cases h), fun d v s p h => (by cases h), fun d v b h => (by cases h)⟩, ho.ownM⟩
            rw [he1] at hasg
            refine code_sound (F := F.inRound b) hF hd (hcall.inRound b) hbody hK (fun c => ⟨esc1, rfl⟩) m L.assign false (by simp) g noLB (ownM own) _ .normal s1 _ w _ hs0 hasg fun g1 lb1 own1 a1 w1 h1 h2 => ?_
            obtain ⟨w2, hbeg, g2, lb2, own2, h3, h4⟩ := begin_sound (P := P) h2 (h1.sub.2.1 _ _ hb) hls1
            refine ⟨w2, hbeg, ?_⟩
            have fin : ∀ (ex : Ex) (s2 : St) (jump : Option Code) (st' : LS), ((jump = none ∧ st' = .ready) ∨ (jump = some .ret ∧ st' = .done none) ∨ ∃ i, jump = some (.exit i) ∧ st' = .done (some i)) →
                exec gl callv (aloop m) body { s1 with mem := s1.mem.setLS l .busy } = some (ex, s2) → s2.mem.ls l = some .busy → r = .bool jump.isNone → m' = s2.mem.setLS l st' →
                (∀ a3 w3, (∃ v w', (Instr.endRound b jump).run P w3 = .ok v w' ∧ ∃ x, Ending.returned v = .returned x ∧ CallPost base (LCof P) gl g own w r m' x w') →
                  roundPost P b (fun e w' => ∃ x, e = .returned x ∧ CallPost base (LCof P) gl g own w r m' x w') ex.exit' a3 w3) →
                L.body.wpIn (F.inRound b) n P (roundPost P b fun e w' => ∃ x, e = .returned x ∧ CallPost base (LCof P) gl g own w r m' x w') a1 w2 := by
              intro ex s2 jump st' hj hbod hls2 hr hm' hpost
              rw [he2] at hbod
              refine code_sound (F := F.inRound b) hF hd (hcall.inRound b) hbody hK (fun c => ⟨esc2, rfl⟩) m L.body false (by simp) g2 lb2 own2 _ ex s2 _ w2 _ h4 hbod fun g3 lb3 own3 a3 w3 h5 h6 => ?_
              obtain ⟨w4, hend, g4, lb4, own4, h7, h8⟩ := end_sound (P := P) h6 (h5.sub.2.1 _ _ (h3.sub.2.1 _ _ (h1.sub.2.1 _ _ hb))) hls2 hj
              refine hpost a3 w3 ⟨_, w4, hend, _, rfl, ?_⟩
              have k := ((h1.trans h3).trans h5).trans h7
              subst hr hm'
              refine ⟨g4, ownM own4, ⟨k.sub, k.size, k.os, k.tape, k.output, k.keep, fun b hb h => ownM_none (k.unown b hb h), k.im⟩, h8.mem.ownM, .bool _ _, h8.own.ownM, fun b d hb => ?_, h8.gl⟩
              obtain ⟨_, id, h⟩ := ownM_some hb; cases h
            split at hx
            · rename_i s2 hbod
              split at hx
              · rename_i hls2
                cases hx
                exact fin .normal s2 none .ready (.inl ⟨rfl, rfl⟩) hbod hls2 rfl rfl fun a3 w3 h => h
              · cases hx
            · rename_i s2 hbod
              split at hx
              · rename_i hls2
                cases hx
                exact fin .ret s2 (some .ret) (.done none) (.inr (.inl ⟨rfl, rfl⟩)) hbod hls2 rfl rfl fun a3 w3 h => h
              · cases hx
            · rename_i i s2 hbod
              split at hx
              · rename_i hls2
                cases hx
                exact fin (.exit i) s2 (some (.exit i)) (.done (some i)) (.inr (.inr ⟨i, rfl, rfl⟩)) hbod hls2 rfl rfl fun a3 w3 h => h
              · cases hx
            · cases hx
        · cases hx
      · cases hx
    · cases hx
  · cases hx

/-- **All calls.** -/
theorem cv_sound (hF : ∀ f, F.fn f) (hd : F.depth = none) (hro : F.round = none) {C : Cfg} (hC : CfgOK F P base C) : ∀ k, CallOK F P base (LCof P) C.gl (cv C k) := by
  intro k
  induction k with
  | zero => intro n g lb own mem w fv args r m' fx vargs _ _ _ _ _ h; simp [cv] at h
  | succ k ih =>
    intro n g lb own mem w fv args r m' fx vargs hm ho hgl hfv hargs hx
    simp only [cv, body] at hx
    split at hx
    · rename_i f first cap
      obtain ⟨As, Bs, rfl, hAs, hBs⟩ : ∃ As Bs, fx = .func (.func f) As Bs ∧ PW (VR g lb) first As.toList ∧ PW (VR g lb) cap Bs.toList := by
        cases hfv with
        | fn _ _ f2 _ _ As Bs hs ht hy hv hw =>
          cases f2 <;> first | exact hy.elim | skip
          cases hy
          exact ⟨As, Bs, rfl, ⟨by simpa using hs.symm, fun i hi hi' => by simpa using hv i hi (by simpa using hi')⟩, ⟨by simpa using ht.symm, fun i hi hi' => by simpa using hw i hi (by simpa using hi')⟩⟩
      have hrun : (do let d ← Deferred.ofValue (.func (.func f) As Bs) vargs; invoke d.target d.args : Sem Next).run P w = (callFunc f (As ++ vargs ++ Bs)).run P w := by
        simp only [Deferred.ofValue, Sem.run_bind, Sem.run_pure, Result.andThen_ok, invoke]
      have hall : PW (VR g noLB) ((first ++ args ++ cap).map (exp mem.blks.length (C.keep f))) (As ++ vargs ++ Bs).toList := by
        have := (hAs.append hargs).append hBs
        simp only [Array.toList_append]
        exact this.map _ fun a b h => (h.exp _ _).sub (g.cut_sub _)
      unfold Called
      rw [hrun]
      split at hx
      · rename_i p hp
        exact hC.prim f p hp n g own mem w _ r m' _ hm ho hgl hall hx
      · split at hx
        · rename_i gf hg
          obtain ⟨fn, c, esc, h1, h2, h3, h4, h5⟩ := (hC.fs f gf hg).ex
          exact .inl ⟨f, _, run_callFunc h1 (by simp [h2]) h3, fn_sound hF hd hro ih (cv_enter hC k) (cv_K C hC.primK k) h1 h2 h4 h5 hm ho hgl hall hx⟩
        · cases hx
    · rename_i l
      obtain ⟨b, rfl, hb⟩ : ∃ b, fx = .func (.yield b) #[] #[] ∧ g.mb l = some b := by
        cases hfv with
        | fn _ _ f2 _ _ As Bs hs ht hy hv hw =>
          cases f2 <;> first | exact hy.elim | skip
          have e1 : As = #[] := Array.size_eq_zero_iff.1 hs
          have e2 : Bs = #[] := Array.size_eq_zero_iff.1 ht
          subst e1 e2
          exact ⟨_, rfl, hy⟩
      obtain ⟨fid, tmps, asg, bod, h1, h2⟩ := round_sound (n := n) hF hd ih (cv_enter hC k) (cv_K C hC.primK k) hb hm ho hgl hargs hx
      refine .inr (.inr ⟨b, fid, tmps, asg, bod, ?_, h2⟩)
      simp only [Deferred.ofValue, Sem.run_bind, Sem.run_pure, Result.andThen_ok, invoke]
      have : (#[] ++ vargs : Array Value) = vargs := by simp
      rw [this]; exact h1
    · cases hx

end
end Go.Abs
