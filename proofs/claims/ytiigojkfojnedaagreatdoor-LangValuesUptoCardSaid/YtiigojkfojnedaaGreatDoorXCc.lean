/- What a function hands back of memory of its own: read out, for nothing writes there any more. -/
import Derived.Test.YtiigojkfojnedaaGreatDoorXCa
set_option linter.unusedVariables false
set_option linter.unusedSimpArgs false
namespace Go.Abs

/-- All cells of the blocks from n on are told of: nobody writes them any more. -/
def Gh.fr (g : Gh) (own : OW) (w : World) (n : Nat) : Gh := {
  im b o := match own b with
    | some (.m id) => if n ≤ id then w.cell? ⟨b, o, none⟩ else g.im b o
    | _ => g.im b o
  mb := (g.cut n).mb
  rows := (g.cut n).rows }


theorem fr_im {g : Gh} {own : OW} {LC : LCR} {mem : Mem} {w : World} (hm : MemR g own LC mem w) (n : Nat) (b o : Nat) (x : Value) (h : (g.fr own w n).im b o = some x) : w.cell? ⟨b, o, none⟩ = some x := by
  simp only [Gh.fr] at h
  split at h
  · split at h
    · exact h
    · exact hm.im _ _ _ h
  · exact hm.im _ _ _ h

theorem fr_sub {g : Gh} {own : OW} {LC : LCR} {mem : Mem} {w : World} (hm : MemR g own LC mem w) (n : Nat) : (g.cut n).sub (g.fr own w n) := by
  refine ⟨fun b o x hx => ?_, fun _ _ h => h, fun _ _ _ h => h⟩
  have hx : g.im b o = some x := hx
  simp only [Gh.fr]
  split
  · split
    · exact hm.im _ _ _ hx
    · exact hx
  · exact hx

theorem cells_frzW {n : Nat} {hp : Nat → Nat → AV} {hs : Nat → Nat → Nat → Nat → AV} (h1 : ∀ id off, (hp id off).cells = [hp id off]) (h2 : ∀ kd id off m, (hs kd id off m).cells = [hs kd id off m]) (v : AV) :
    (frzW n hp hs v).cells = v.cells.map (frzW n hp hs) := by
  cases v with
  | gptr id off =>
    by_cases h : id < n
    · simp [frzW, AV.cells, h]
    · have e : frzW n hp hs (.gptr id off) = hp id off := by simp [frzW, h]
      rw [e, h1, ← e]; rfl
  | sl kd id off m cap =>
    by_cases h : id < n
    · simp [frzW, AV.cells, h]
    · have e : frzW n hp hs (.sl kd id off m cap) = hs kd id off m := by simp [frzW, h]
      rw [e, h2, ← e]; rfl
  | fn f a b => simp only [frzW, AV.cells, List.map_cons, List.map_nil]; by_cases h : Fn.below n f = true <;> simp [h]
  | map id => simp only [frzW, AV.cells, List.map_cons, List.map_nil]; by_cases h : id < n <;> simp [h]
  | _ => simp [frzW, AV.cells, frzWs_eq]

theorem chunk_length (s : Nat) : ∀ (m : Nat) (l : List AV), (chunk s m l).length = m := by
  intro m
  induction m with
  | zero => intro l; rfl
  | succ m ih => intro l; simp [chunk, ih]

theorem chunk_get (s : Nat) : ∀ (m : Nat) (l : List AV) (i : Nat) (h : i < (chunk s m l).length), (chunk s m l)[i] = .agg ((l.drop (i * s)).take s) := by
  intro m
  induction m with
  | zero => intro l i h; simp [chunk] at h
  | succ m ih =>
    intro l i h
    cases i with
    | zero => simp [chunk]
    | succ i =>
      simp only [chunk, List.getElem_cons_succ]
      rw [ih]
      rw [List.drop_drop, Nat.add_mul, Nat.one_mul, Nat.add_comm]

section
variable {g : Gh} {own : OW} {LC : LCR} {mem : Mem} {w : World}

/-- A block's cells, read out. -/
theorem blk_read (hm : MemR g own LC mem w) {id b n : Nat} {l : List AV} (hb : g.mb id = some b) (hl : mem.blks[id]? = some (.cells l)) (hn : ¬id < n) :
    ∃ a : Array Value, a.size = l.length ∧ (∀ i (h : i < a.size), (g.fr own w n).im b i = some a[i] ∧ a[i].oneCell' = true) ∧ ∀ i (h : i < l.length) (h' : i < a.size), VR g noLB l[i] a[i] := by
  obtain ⟨b', k1, k2, k3, a, e, k4, k5, k6, k7⟩ := hm.blk id _ hl
  rw [hb] at k1; cases k1
  refine ⟨a, k5, fun i h => ⟨?_, k7 i h⟩, fun i h h' => k6 i h h'⟩
  simp only [Gh.fr, k2]
  rw [if_pos (by omega)]
  simp [World.cell?, k4, h]

theorem frz_cells (bs : List Blk) (n k : Nat) (v : AV) : (frz bs n k v).cells = v.cells.map (frz bs n k) := by
  cases k with
  | zero => exact cells_exp n false v
  | succ k =>
    refine cells_frzW (fun id off => ?_) (fun kd id off m => ?_) v
    · split <;> rfl
    · (repeat' split) <;> rfl

/-- **What leaves an activation.** -/
theorem frz_spec (hm : MemR g own LC mem w) (n : Nat) : ∀ (k : Nat) {lb lb' : LB} {v : AV} {x : Value}, VR g lb v x → VR (g.fr own w n) lb' (frz mem.blks n k v) x := by
  intro k
  induction k with
  | zero => intro lb lb' v x h; exact (h.exp n false).sub (fr_sub hm n)
  | succ k ihk =>
    intro lb lb' v x h
    induction h generalizing lb' with
    | undef => exact .undef _
    | junk _ x h => exact .junk _ x h
    | int _ k n => exact .int _ k n
    | bool _ b => exact .bool _ b
    | str _ b s h => exact .str _ b s h
    | nilp => exact .nilp _
    | lptr _ d v off b h => exact .junk _ _ rfl
    | gptr _ id off b h =>
      simp only [frz, frzW]
      split
      · rename_i hi; exact .gptr _ id off b (by simp only [Gh.fr, Gh.cut, hi, if_true]; exact h)
      · rename_i hi
        split
        · rename_i l hl
          obtain ⟨a, h1, h2, h3⟩ := blk_read hm h hl hi
          refine .ref _ _ b off (fun i => a.getD (off + i) undef) (fun i hi' => ?_) (fun i hi' => ?_)
          · simp at hi'
            have hlt : off + i < a.size := by omega
            have := h2 (off + i) hlt
            simpa [Array.getD_eq_getD_getElem?, hlt] using this
          · simp at hi'
            have hlt : off + i < a.size := by omega
            have := ihk (lb' := noLB) (h3 (off + i) (by omega) hlt)
            simpa [Array.getD_eq_getD_getElem?, hlt] using this
        · exact .junk _ _ rfl
    | ref _ l b o xs him _ ih =>
      simp only [frz, frzW, frzWs_eq]
      refine .ref _ _ b o xs (fun i hi => ?_) (fun i hi => ?_)
      · have := him i (by simpa using hi)
        exact ⟨(fr_sub hm n).1 _ _ _ this.1, this.2⟩
      · simp only [List.getElem_map]
        exact ih i (by simpa using hi)
    | listNil =>
      simp only [frz, frzW, frzWs_eq, List.map_nil, Cap.exp]
      exact .listNil _
    | sl _ kd id off m cap b hc h =>
      simp only [frz, frzW]
      split
      · rename_i hi; exact .sl _ kd id off m cap b hc (by simp only [Gh.fr, Gh.cut, hi, if_true]; exact h)
      · rename_i hi
        split
        · rename_i l hl
          obtain ⟨a, h1, h2, h3⟩ := blk_read hm h hl hi
          split
          · rename_i hfit
            split
            · rename_i hkd
              subst hkd
              have hfit' : off + m ≤ l.length := by
                have e0 : Nat.max 0 1 = 1 := rfl
                rw [e0] at hfit; omega
              split
              · rename_i hone
                simp only [List.all_eq_true] at hone
                have hc1 : ∀ v, v ∈ (l.drop off).take m → (frz mem.blks n k v).cells = [frz mem.blks n k v] := fun v hv => by
                  rw [frz_cells]
                  have := hone v hv
                  cases v <;> simp_all [AV.cells, AV.one]
                refine .list _ .any _ b off 1 m cap (fun i _ => a.getD (off + i) undef) (by simp; omega) hc trivial (fun e he => ?_) (fun i hi' j hj => ?_) (fun i hi' j hj => ?_)
                · obtain ⟨v, hv, rfl⟩ := List.mem_map.1 he
                  rw [hc1 v hv]; rfl
                · obtain rfl : j = 0 := by omega
                  have hlt : off + i < a.size := by omega
                  have := h2 (off + i) hlt
                  simpa [Array.getD_eq_getD_getElem?, hlt] using this
                · simp at hi'
                  have hlt : off + i < a.size := by omega
                  have hmem : l[off + i]'(by omega) ∈ (l.drop off).take m := by
                    rw [List.mem_iff_getElem]
                    exact ⟨i, by simp; omega, by simp⟩
                  have e1 : ((((l.drop off).take m).map (frz mem.blks n k))[i]'(by simp; omega)) = frz mem.blks n k (l[off + i]'(by omega)) := by simp
                  have e2 := hc1 _ hmem
                  have hj0 : j = 0 := by
                    have := hj
                    simp only [e1, e2, List.length_cons, List.length_nil] at this
                    omega
                  subst hj0
                  have := ihk (lb' := noLB) (h3 (off + i) (by omega) hlt)
                  simp only [e1, e2, List.getElem_cons_zero]
                  simpa [Array.getD_eq_getD_getElem?, hlt] using this
              · exact .junk _ _ rfl
            · rename_i hkd
              have hmx : Nat.max kd 1 = kd := Nat.max_eq_left (by omega)
              rw [hmx] at hfit
              have hbound : ∀ i j, i < m → j < kd → off + (i * kd + j) < l.length := by
                intro i j hi hj
                have := idx_lt hi hj
                omega
              refine .list _ .any _ b off kd m cap (fun i j => a.getD (off + (i * kd + j)) undef) (chunk_length _ _ _) hc trivial (fun e he => ?_) (fun i hi' j hj => ?_) (fun i hi' j hj => ?_)
              · obtain ⟨i, hi2, rfl⟩ := List.mem_iff_getElem.1 he
                rw [chunk_get]
                simp only [AV.cells, List.length_take, List.length_drop, List.length_map]
                rw [chunk_length] at hi2
                have h5 : (i + 1) * kd ≤ m * kd := Nat.mul_le_mul_right _ hi2
                rw [Nat.add_mul] at h5
                omega
              · have hlt : off + (i * kd + j) < a.size := by rw [h1]; exact hbound i j hi' hj
                have := h2 _ hlt
                simpa [Array.getD_eq_getD_getElem?, hlt] using this
              · have hi2 : i < m := by rw [chunk_length] at hi'; exact hi'
                have e0 := chunk_get kd m ((l.drop off).map (frz mem.blks n k)) i hi'
                have hj2 : j < kd := by
                  have := hj
                  rw [e0] at this
                  simp only [AV.cells, List.length_take, List.length_drop, List.length_map] at this
                  omega
                have hlt : off + (i * kd + j) < a.size := by rw [h1]; exact hbound i j hi2 hj2
                have := ihk (lb' := noLB) (h3 _ (hbound i j hi2 hj2) hlt)
                have e1 : (((chunk kd m ((l.drop off).map (frz mem.blks n k)))[i]'hi').cells[j]'hj) = frz mem.blks n k (l[off + (i * kd + j)]'(hbound i j hi2 hj2)) := by
                  simp only [e0, AV.cells, List.getElem_take, List.getElem_drop, List.getElem_map]
                rw [e1]
                simpa [Array.getD_eq_getD_getElem?, hlt] using this
          · exact .junk _ _ rfl
        · exact .junk _ _ rfl
    | listE _ c a cap hc =>
      have he : frz mem.blks n (k + 1) (.list c []) = .list (c.exp n false) [] := by simp only [frz, frzW, frzWs_eq, List.map_nil]
      rw [he]
      refine .listE _ _ a cap ?_
      rcases hc with rfl | ⟨rfl, h⟩ <;> exact .inl rfl
    | list _ c l b o sz m cap xs hm' hcap hc hsz him _ ih =>
      have he : frz mem.blks n (k + 1) (.list c l) = .list (c.exp n false) (l.map (frz mem.blks n (k + 1))) := by simp only [frz, frzW, frzWs_eq]
      rw [he]
      have hcells : ∀ v, (frz mem.blks n (k + 1) v).cells = v.cells.map (frz mem.blks n (k + 1)) := frz_cells _ _ _
      refine .list _ _ _ b o sz m cap xs (by simpa using hm') hcap (capOK_mono (fr_sub hm n) (capOK_exp hc)) ?_ (fun i hi j hj => ?_) ?_
      · intro e he
        obtain ⟨e', he', rfl⟩ := List.mem_map.1 he
        rw [hcells, List.length_map]; exact hsz e' he'
      · have := him i hi j hj
        exact ⟨(fr_sub hm n).1 _ _ _ this.1, this.2⟩
      · intro i hi j hj
        have hi' : i < l.length := by simpa using hi
        have hj' : j < l[i].cells.length := by simpa [hcells] using hj
        have := ih i hi' j hj' (lb' := noLB)
        simpa [hcells] using this
    | agg _ l a hs h1 _ ih =>
      simp only [frz, frzW, frzWs_eq]
      refine .agg _ _ a (by simpa using hs) h1 fun i hi hi' => ?_
      simp only [List.getElem_map]
      exact ih i (by simpa using hi) hi'
    | tup _ l a hs _ ih =>
      simp only [frz, frzW, frzWs_eq]
      refine .tup _ _ a (by simpa using hs) fun i hi hi' => ?_
      simp only [List.getElem_map]
      exact ih i (by simpa using hi) hi'
    | fn _ f f' l m' a b hs ht hy _ _ ih1 ih2 =>
      simp only [frz, frzW, frzWs_eq]
      split
      · rename_i hf
        refine .fn _ f f' _ _ a b (by simpa using hs) (by simpa using ht) ?_ (fun i hi hi' => ?_) (fun i hi hi' => ?_)
        · cases f <;> cases f' <;> first | exact hy | exact hy.elim | skip
          simp only [Fn.below, decide_eq_true_eq] at hf
          simp only [FnR, Gh.fr, Gh.cut, hf, if_true]
          exact hy
        · simp only [List.getElem_map]
          exact ih1 i (by simpa using hi) hi'
        · simp only [List.getElem_map]
          exact ih2 i (by simpa using hi) hi'
      · exact .junk _ _ rfl
    | nilfn => exact .nilfn _
    | iface _ t v x _ ih => exact .iface _ t _ x ih
    | nilif => exact .nilif _
    | map _ id b h =>
      simp only [frz, frzW]
      split
      · rename_i hi; exact .map _ id b (by simp only [Gh.fr, Gh.cut, hi, if_true]; exact h)
      · exact .junk _ _ rfl
    | nilmap => exact .nilmap _

theorem fr_mem {n : Nat} {m' : Mem} (hm : MemR g own LC mem w) (h : MemR (g.cut n) (ownCut n own) LC m' w) : MemR (g.fr own w n) (ownCut n own) LC m' w := by
  refine h.keep (fr_sub hm n) (fun _ h => h) (fun _ _ h => h) (fun id b hb => ⟨rfl, rfl, fun o => ?_⟩) (fun b o x hx => fr_im hm n b o x hx)
  have h1 := (ownCut_some hb).1
  have h2 : id < n := by
    simp only [ownCut, h1] at hb
    split at hb
    · assumption
    · cases hb
  simp only [Gh.fr, h1]
  rw [if_neg (by omega)]
  rfl

end
end Go.Abs

/- Calls: what the executor makes of a call is what the machine does. -/
namespace Go.Abs

/-- What a function comes to: entered, or answered at once. -/
def CalledR (F : Fence) (n : Nat) (P : Program) (run : Result Next) (w : World) (R : Value → World → Prop) : Prop :=
  (∃ (f : FuncId) (as : Array Value), run = .ok (.enter f as) w ∧ CallsIn F n P f as w fun e w' => ∃ x, e = .returned x ∧ R x w') ∨
  (∃ x w', run = .ok (.value x) w' ∧ R x w') ∨
  (∃ (l : Nat) (f : FuncId) (tmps : Array Value) (assign body : Code), run = .ok (.round l f tmps assign body) w ∧
    RoundIn F n P l f tmps assign body w fun e w' => ∃ x, e = .returned x ∧ R x w')

/-- A function answered by a law of its own. -/
def PrimOK (F : Fence) (P : Program) (base : Nat) (LC : LCR) (gl : Nat → AV) (f : FuncId) (p : Prim) : Prop :=
  ∀ (n : Nat) (g : Gh) (own : OW) (mem : Mem) (w : World) (args : List AV) (r : AV) (m' : Mem) (vargs : Array Value),
    MemR g own LC mem w → OwnR base own w → GlR g gl → PW (VR g noLB) args vargs.toList → p args mem = some (r, m') →
    CalledR F n P ((callFunc f vargs).run P w) w (CallPost base LC gl g own w r m')

def LCof (P : Program) : LCR := fun N a c => ∃ esc, a = cCode P esc N false c

/-- The executor's functions are the program's. -/
structure FnOK (P : Program) (f : FuncId) (g : AF) : Prop where
  ex : ∃ fn c esc, P.funcs[f]? = some fn ∧ fn.body = some c ∧ (fn.name == "runtime.NumGoroutine") = false ∧ g.code = cCode P esc fn.ntmps true c ∧ cRess P fn.results.toList = some g.results

structure CfgOK (F : Fence) (P : Program) (base : Nat) (C : Cfg) : Prop where
  fs : ∀ f g, C.fs f = some g → FnOK P f g
  prim : ∀ f p, C.prim f = some p → PrimOK F P base (LCof P) C.gl f p
  primK : ∀ f p, C.prim f = some p → ∀ args m r m', p args m = some (r, m') → KM m m'
  primE : ∀ f p, C.prim f = some p → (∃ fn, P.funcs[f]? = some fn ∧ fn.body.isNone = false ∧ (fn.name == "runtime.NumGoroutine") = false) ∨
    ∀ first cap l mem, p ((first ++ [.fn (.yield l) [] []] ++ cap).map (exp mem.blks.length (C.keep f))) mem = none

section
variable {F : Fence} {n : Nat} {P : Program} {esc : Nat → Bool} {N : Nat} {gl : Nat → AV} {base : Nat} {LC : LCR} {ent : Nat} {callv : CallV}
variable {g : Gh} {lb : LB} {own : OW} {s : St} {a : Act} {w : World}

theorem cv_enter {C : Cfg} (hC : CfgOK F P base C) : ∀ k, EnterOK P (cv C k) := by
  intro k
  cases k with
  | zero => intro f first cap l mem r h; simp [cv] at h
  | succ k =>
    intro f first cap l mem r h
    simp only [cv, body] at h
    split at h
    · rename_i p hp
      rcases hC.primE f p hp with h1 | h1
      · exact h1
      · rw [h1] at h; cases h
    · split at h
      · rename_i g hg
        obtain ⟨fn, c, esc, h1, h2, h3, h4, h5⟩ := (hC.fs f g hg).ex
        exact ⟨fn, h1, by simp [h2], h3⟩
      · cases h

theorem ownM_m {own : OW} {b id : Nat} (h : own b = some (.m id)) : ownM own b = some (.m id) := by simp [ownM, h]
theorem ownM_none {own : OW} {b : Nat} (h : own b = none) : ownM own b = none := by simp [ownM, h]

theorem MemR.ownM {mem : Mem} (h : MemR g own LC mem w) : MemR g (ownM own) LC mem w :=
  h.keep g.sub_refl (fun _ h => h) (fun _ _ h => h) (fun id b hb => ⟨by rw [ownM_m hb, hb], rfl, fun _ => rfl⟩) h.im

theorem MemR.touch {mem : Mem} (h : MemR g own LC mem w) (t : List Nat) : MemR g own LC { blks := mem.blks, touched := t } w := ⟨h.dom, h.rdom, h.blk, h.im⟩

theorem OwnR.ownM (h : OwnR base own w) : OwnR base (ownM own) w := ⟨fun b o hb => h.ge b o (ownM_some hb).1, h.base⟩

theorem getD_enter (args : Array Value) (k t : Nat) : (args ++ Array.replicate k undef).getD t undef = args.getD t undef := by
  simp only [Array.getD_eq_getD_getElem?, Array.getElem?_append]
  split
  · rfl
  · rename_i h
    rw [Array.getElem?_eq_none (xs := args) (by omega)]
    by_cases h2 : t - args.size < k
    · simp [h2]
    · simp [h2]

theorem getE_eq (l : List AV) (t : Nat) : getE l t = (l[t]?).getD .undef := by
  induction l generalizing t with
  | nil => simp [getE]
  | cons a l ih => cases t with
    | zero => rfl
    | succ t => simp [getE, ih]

theorem env_enter {args : List AV} {vargs : Array Value} (h : PW (VR g lb) args vargs.toList) (k t : Nat) : VR g lb (getE args t) ((vargs ++ Array.replicate k undef).getD t undef) := by
  rw [getD_enter, getE_eq, Array.getD_eq_getD_getElem?]
  rcases Nat.lt_or_ge t args.length with hlt | hge
  · have hlt' : t < vargs.size := by have := h.1; simp at this; omega
    have := h.2 t hlt (by simpa using hlt')
    simpa [hlt, hlt'] using this
  · have hge' : vargs.size ≤ t := by have := h.1; simp at this; omega
    rw [List.getElem?_eq_none hge, Array.getElem?_eq_none hge']
    exact .undef _

/-- **A function.** -/
theorem fn_sound (hF : ∀ f, F.fn f) (hd : F.depth = none) (hro : F.round = none) (hcall : CallOK F P base (LCof P) gl callv) (hbody : EnterOK P callv) (hK : KC callv) {m : Nat}
    {f : FuncId} {fn : Func} {c : Code} (hf1 : P.funcs[f]? = some fn) (hf2 : fn.body = some c) {gf : AF} (hf4 : gf.code = cCode P esc fn.ntmps true c) (hf5 : cRess P fn.results.toList = some gf.results)
    {mem : Mem} (hm : MemR g own (LCof P) mem w) (ho : OwnR base own w) (hgl : GlR g gl) {args : List AV} {vargs : Array Value} (hargs : PW (VR g noLB) args vargs.toList) {keep : Bool} {r : AV} {m' : Mem}
    (hx : fin gf keep mem (exec gl callv (aloop m) gf.code { env := args, loc := [], mem := { blks := mem.blks, touched := [] } }) = some (r, m')) :
    CallsIn F n P f vargs w fun e w' => ∃ x, e = .returned x ∧ CallPost base (LCof P) gl g own w r m' x w' := by
  generalize hex : exec gl callv (aloop m) gf.code _ = y at hx
  cases y with
  | none => simp [fin] at hx
  | some y =>
  obtain ⟨ex, s'⟩ := y
  have hKM := exec_K hK (aloop_K m) _ _ _ _ hex
  rw [hf4] at hex
  have hs0 : SR gl base fn.ntmps (LCof P) w.heap.size g noLB (ownM own) { env := args, loc := [], mem := { blks := mem.blks, touched := [] } }
      { tmps := vargs ++ Array.replicate (fn.ntmps - vargs.size) undef, defers := [] } w := by
    refine ⟨fun t => env_enter hargs _ t, hgl, by simp; omega, Marks.nil (Nat.le_refl _), hm.ownM.touch _, ⟨fun d v l h => (by cases h), fun d v s p h => (by cases h), fun d v b h => (by cases h)⟩, ho.ownM⟩
  refine callsIn_of_wp_marks hf1 hf2 (hF f) ?_ hro
  refine code_sound hF hd hcall hbody hK (fun c => ⟨esc, rfl⟩) m c true (fun _ => hro) g noLB (ownM own) _ ex s' _ w _ hs0 hex fun g' lb' own' a' w' h1 h2 => ?_
  have hkey : (match gets s' gf.results with
      | some l => if keep then some (exp s'.mem.blks.length true (tupled l), ({ blks := s'.mem.blks, touched := mem.touched ++ s'.mem.touched } : Mem))
        else some (frz s'.mem.blks mem.blks.length 8 (tupled l), mem.back s'.mem)
      | none => none) = some (r, m') → LeavesInM F n P fn a'.tmps (fun e w' => ∃ x, e = Ending.returned x ∧ CallPost base (LCof P) gl g own w r m' x w') a'.defers .returning w' := by
    intro hx
    obtain ⟨h0, ms, hnd, hde, hms⟩ := h2.defers
    have h2' : SR gl base fn.ntmps (LCof P) w.heap.size g' lb' own' s' { tmps := a'.tmps, defers := ms.map markOf } w' := by
      rw [← hde]; exact h2
    rw [hde]
    refine take_marks (Nat.le_refl _) ms w' hnd hms h1 h2' fun w2 k1 k2 => ?_
    split at hx
    · rename_i l hl
      obtain ⟨x, q1, q2⟩ := results_spec k2 hf5 hl
      refine ⟨x, q1, x, rfl, ?_⟩
      split at hx
      · simp only [Option.some.injEq, Prod.mk.injEq] at hx
        obtain ⟨rfl, rfl⟩ := hx
        refine ⟨g', ownM own', ⟨k1.sub, k1.size, k1.os, k1.tape, k1.output, k1.keep, fun b hb h => ownM_none (k1.unown b hb h), k1.im⟩, k2.mem.ownM.touch _, (q2.exp _ _).sub (g'.cut_sub _), k2.own.ownM, fun b d hb => ?_, k2.gl⟩
        obtain ⟨_, id, h⟩ := ownM_some hb; cases h
      · simp only [Option.some.injEq, Prod.mk.injEq] at hx
        obtain ⟨rfl, rfl⟩ := hx
        have hb := back_spec hm (extra := []) k2.mem (by rw [List.append_nil]; exact hKM)
        have hsub : g.sub (g'.cut mem.blks.length) := by
          refine ⟨fun b o y hy => k1.sub.1 b o y hy, fun id b hb => ?_, fun t k y hy => ?_⟩
          · simp only [Gh.cut]; rw [if_pos (hm.dom id b hb)]; exact k1.sub.2.1 _ _ hb
          · simp only [Gh.cut]; rw [if_pos (hm.rdom t k y hy)]; exact k1.sub.2.2 _ _ _ hy
        refine ⟨g'.fr own' w2 mem.blks.length, ownCut mem.blks.length own', ⟨Gh.sub_trans hsub (fr_sub k2.mem _), k1.size, k1.os, k1.tape, k1.output, k1.keep, fun b hb h => ownCut_none (k1.unown b hb h), fun b hb h o => ?_⟩, fr_mem k2.mem hb, frz_spec k2.mem _ _ q2,
          ⟨fun b o hb => k2.own.ge b o (ownCut_some hb).1, k2.own.base⟩, fun b d hb => ?_, hgl.mono (Gh.sub_trans hsub (fr_sub k2.mem _))⟩
        · have hu := k1.unown b hb h
          have : (g'.fr own' w2 mem.blks.length).im b o = g'.im b o := by simp only [Gh.fr, hu]
          rw [this]; exact k1.im b hb h o
        obtain ⟨_, id, h⟩ := ownCut_some hb; cases h
    · cases hx
  cases ex with
  | exit i => simp [fin] at hx
  | normal => exact hkey hx
  | ret => exact hkey hx

end
end Go.Abs
