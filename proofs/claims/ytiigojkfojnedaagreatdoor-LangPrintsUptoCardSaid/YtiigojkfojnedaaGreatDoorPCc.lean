/- A text of this proof. -/
import Derived.Test.YtiigojkfojnedaaGreatDoorPCa
set_option linter.unusedVariables false
set_option linter.unusedSimpArgs false
namespace Go.Abs
def Gh.fr (g : Gh) (own : OW) (w : World) (n : Nat) : Gh := {
 im b o := match own b with
  | some (.m id) => if n <= id then w.cell? ⟨b,o,none⟩ else g.im b o
  | _ => g.im b o
 mb := (g.cut n).mb
 rows := (g.cut n).rows }
theorem fr_im {g : Gh} {own : OW} {LC : LCR} {mem : Mem} {w : World} (hm : MemR g own LC mem w) (n : Nat) (b o : Nat) (x : Value) (h : (g.fr own w n).im b o = some x) : w.cell? ⟨b,o,none⟩ = some x := by
 simp only [Gh.fr] at h
 split at h
 ·split at h
  ·exact h
  ·exact hm.im _ _ _ h
 ·exact hm.im _ _ _ h
theorem fr_sub {g : Gh} {own : OW} {LC : LCR} {mem : Mem} {w : World} (hm : MemR g own LC mem w) (n : Nat) : (g.cut n).sub (g.fr own w n) := by
 refine ⟨fun b o x hx => ?_,fun _ _ h => h,fun _ _ _ h => h⟩
 have hx : g.im b o = some x := hx
 simp only [Gh.fr]
 split
 ·split
  ·exact hm.im _ _ _ hx
  ·exact hx
 ·exact hx
theorem cells_frzW {n : Nat} {hp : Nat -> Nat -> AV} {hs : Nat -> Nat -> Nat -> Nat -> AV} (h1 : ∀ id off,(hp id off).cells = [hp id off]) (h2 : ∀ kd id off m,(hs kd id off m).cells = [hs kd id off m]) (v : AV) :
  (frzW n hp hs v).cells = v.cells.map (frzW n hp hs) := by
 cases v with
 | gptr id off =>
  by_cases h : id < n
  ·simp [frzW,AV.cells,h]
  ·have e : frzW n hp hs (.gptr id off) = hp id off := by simp [frzW,h]
   rw [e,h1,<- e]; rfl
 | sl kd id off m cap =>
  by_cases h : id < n
  ·simp [frzW,AV.cells,h]
  ·have e : frzW n hp hs (.sl kd id off m cap) = hs kd id off m := by simp [frzW,h]
   rw [e,h2,<- e]; rfl
 | fn f a b => simp only [frzW,AV.cells,List.map_cons,List.map_nil]; by_cases h : Fn.below n f = true <;> simp [h]
 | map id => simp only [frzW,AV.cells,List.map_cons,List.map_nil]; by_cases h : id < n <;> simp [h]
 | _ => simp [frzW,AV.cells,frzWs_eq]
theorem chunk_length (s : Nat) : ∀ (m : Nat) (l : List AV),(chunk s m l).length = m := by
 intro m
 induction m with
 | zero => intro l; rfl
 | succ m ih => intro l; simp [chunk,ih]
theorem chunk_get (s : Nat) : ∀ (m : Nat) (l : List AV) (i : Nat) (h : i < (chunk s m l).length),(chunk s m l)[i] = .agg ((l.drop (i * s)).take s) := by
 intro m
 induction m with
 | zero => intro l i h; simp [chunk] at h
 | succ m ih =>
  intro l i h
  cases i with
  | zero => simp [chunk]
  | succ i =>
   simp only [chunk,List.getElem_cons_succ]
   rw [ih]
   rw [List.drop_drop,Nat.add_mul,Nat.one_mul,Nat.add_comm]
section
variable {g : Gh} {own : OW} {LC : LCR} {mem : Mem} {w : World}
theorem blk_read (hm : MemR g own LC mem w) {id b n : Nat} {l : List AV} (hb : g.mb id = some b) (hl : mem.blks[id]? = some (.cells l)) (hn : ¬id < n) :
  ∃ a : Array Value,a.size = l.length /\ (∀ i (h : i < a.size),(g.fr own w n).im b i = some a[i] /\ a[i].oneCell' = true) /\ ∀ i (h : i < l.length) (h' : i < a.size),VR g noLB l[i] a[i] := by
 obtain ⟨b',k1,k2,k3,a,e,k4,k5,k6,k7⟩ := hm.blk id _ hl
 rw [hb] at k1; cases k1
 refine ⟨a,k5,fun i h => ⟨?_,k7 i h⟩,fun i h h' => k6 i h h'⟩
 simp only [Gh.fr,k2]
 rw [if_pos (by omega)]
 simp [World.cell?,k4,h]
theorem frz_cells (bs : List Blk) (n k : Nat) (v : AV) : (frz bs n k v).cells = v.cells.map (frz bs n k) := by
 cases k with
 | zero => exact cells_exp n false v
 | succ k =>
  refine cells_frzW (fun id off => ?_) (fun kd id off m => ?_) v
  ·split <;> rfl
  ·(repeat' split) <;> rfl
theorem frz_spec (hm : MemR g own LC mem w) (n : Nat) : ∀ (k : Nat) {lb lb' : LB} {v : AV} {x : Value},VR g lb v x -> VR (g.fr own w n) lb' (frz mem.blks n k v) x := by
 intro k
 induction k with
 | zero => intro lb lb' v x h; exact (h.exp n false).sub (fr_sub hm n)
 | succ k ihk =>
  intro lb lb' v x h
  induction h generalizing lb' with
  | undef => exact .undef _
  | junk _ x h => exact .junk _ x h
  | int _ k n => exact .int _ k n
  | bool _ b => exact .bool _ b
  | str _ b s h => exact .str _ b s h
  | nilp => exact .nilp _
  | lptr _ d v off b h => exact .junk _ _ rfl
  | gptr _ id off b h =>
   simp only [frz,frzW]
   split
   ·rename_i hi; exact .gptr _ id off b (by simp only [Gh.fr,Gh.cut,hi,if_true]; exact h)
   ·rename_i hi
    split
    ·rename_i l hl
     obtain ⟨a,h1,h2,h3⟩ := blk_read hm h hl hi
     refine .ref _ _ b off (fun i => a.getD (off + i) undef) (fun i hi' => ?_) (fun i hi' => ?_)
     ·simp at hi'
      have hlt : off + i < a.size := by omega
      have := h2 (off + i) hlt
      simpa [Array.getD_eq_getD_getElem?,hlt] using this
     ·simp at hi'
      have hlt : off + i < a.size := by omega
      have := ihk (lb' := noLB) (h3 (off + i) (by omega) hlt)
      simpa [Array.getD_eq_getD_getElem?,hlt] using this
    ·exact .junk _ _ rfl
  | ref _ l b o xs him _ ih =>
   simp only [frz,frzW,frzWs_eq]
   refine .ref _ _ b o xs (fun i hi => ?_) (fun i hi => ?_)
   ·have := him i (by simpa using hi)
    exact ⟨(fr_sub hm n).1 _ _ _ this.1,this.2⟩
   ·simp only [List.getElem_map]
    exact ih i (by simpa using hi)
  | listNil =>
   simp only [frz,frzW,frzWs_eq,List.map_nil,Cap.exp]
   exact .listNil _
  | sl _ kd id off m cap b hc h =>
   simp only [frz,frzW]
   split
   ·rename_i hi; exact .sl _ kd id off m cap b hc (by simp only [Gh.fr,Gh.cut,hi,if_true]; exact h)
   ·rename_i hi
    split
    ·rename_i l hl
     obtain ⟨a,h1,h2,h3⟩ := blk_read hm h hl hi
     split
     ·rename_i hfit
      split
      ·rename_i hkd
       subst hkd
       have hfit' : off + m <= l.length := by
        have e0 : Nat.max 0 1 = 1 := rfl
        rw [e0] at hfit; omega
       split
       ·rename_i hone
        simp only [List.all_eq_true] at hone
        have hc1 : ∀ v,v ∈ (l.drop off).take m -> (frz mem.blks n k v).cells = [frz mem.blks n k v] := fun v hv => by
         rw [frz_cells]
         have := hone v hv
         cases v <;> simp_all [AV.cells,AV.one]
        refine .list _ .any _ b off 1 m cap (fun i _ => a.getD (off + i) undef) (by simp; omega) hc trivial (fun e he => ?_) (fun i hi' j hj => ?_) (fun i hi' j hj => ?_)
        ·obtain ⟨v,hv,rfl⟩ := List.mem_map.1 he
         rw [hc1 v hv]; rfl
        ·obtain rfl : j = 0 := by omega
         have hlt : off + i < a.size := by omega
         have := h2 (off + i) hlt
         simpa [Array.getD_eq_getD_getElem?,hlt] using this
        ·simp at hi'
         have hlt : off + i < a.size := by omega
         have hmem : l[off + i]'(by omega) ∈ (l.drop off).take m := by
          rw [List.mem_iff_getElem]
          exact ⟨i,by simp; omega,by simp⟩
         have e1 : ((((l.drop off).take m).map (frz mem.blks n k))[i]'(by simp; omega)) = frz mem.blks n k (l[off + i]'(by omega)) := by simp
         have e2 := hc1 _ hmem
         have hj0 : j = 0 := by
          have := hj
          simp only [e1,e2,List.length_cons,List.length_nil] at this
          omega
         subst hj0
         have := ihk (lb' := noLB) (h3 (off + i) (by omega) hlt)
         simp only [e1,e2,List.getElem_cons_zero]
         simpa [Array.getD_eq_getD_getElem?,hlt] using this
       ·exact .junk _ _ rfl
      ·rename_i hkd
       have hmx : Nat.max kd 1 = kd := Nat.max_eq_left (by omega)
       rw [hmx] at hfit
       have hbound : ∀ i j,i < m -> j < kd -> off + (i * kd + j) < l.length := by
        intro i j hi hj
        have := idx_lt hi hj
        omega
       refine .list _ .any _ b off kd m cap (fun i j => a.getD (off + (i * kd + j)) undef) (chunk_length _ _ _) hc trivial (fun e he => ?_) (fun i hi' j hj => ?_) (fun i hi' j hj => ?_)
       ·obtain ⟨i,hi2,rfl⟩ := List.mem_iff_getElem.1 he
        rw [chunk_get]
        simp only [AV.cells,List.length_take,List.length_drop,List.length_map]
        rw [chunk_length] at hi2
        have h5 : (i + 1) * kd <= m * kd := Nat.mul_le_mul_right _ hi2
        rw [Nat.add_mul] at h5
        omega
       ·have hlt : off + (i * kd + j) < a.size := by rw [h1]; exact hbound i j hi' hj
        have := h2 _ hlt
        simpa [Array.getD_eq_getD_getElem?,hlt] using this
       ·have hi2 : i < m := by rw [chunk_length] at hi'; exact hi'
        have e0 := chunk_get kd m ((l.drop off).map (frz mem.blks n k)) i hi'
        have hj2 : j < kd := by
         have := hj
         rw [e0] at this
         simp only [AV.cells,List.length_take,List.length_drop,List.length_map] at this
         omega
        have hlt : off + (i * kd + j) < a.size := by rw [h1]; exact hbound i j hi2 hj2
        have := ihk (lb' := noLB) (h3 _ (hbound i j hi2 hj2) hlt)
        have e1 : (((chunk kd m ((l.drop off).map (frz mem.blks n k)))[i]'hi').cells[j]'hj) = frz mem.blks n k (l[off + (i * kd + j)]'(hbound i j hi2 hj2)) := by
         simp only [e0,AV.cells,List.getElem_take,List.getElem_drop,List.getElem_map]
        rw [e1]
        simpa [Array.getD_eq_getD_getElem?,hlt] using this
     ·exact .junk _ _ rfl
    ·exact .junk _ _ rfl
  | listE _ c a cap hc =>
   have he : frz mem.blks n (k + 1) (.list c []) = .list (c.exp n false) [] := by simp only [frz,frzW,frzWs_eq,List.map_nil]
   rw [he]
   refine .listE _ _ a cap ?_
   rcases hc with rfl | ⟨rfl,h⟩ <;> exact .inl rfl
  | list _ c l b o sz m cap xs hm' hcap hc hsz him _ ih =>
   have he : frz mem.blks n (k + 1) (.list c l) = .list (c.exp n false) (l.map (frz mem.blks n (k + 1))) := by simp only [frz,frzW,frzWs_eq]
   rw [he]
   have hcells : ∀ v,(frz mem.blks n (k + 1) v).cells = v.cells.map (frz mem.blks n (k + 1)) := frz_cells _ _ _
   refine .list _ _ _ b o sz m cap xs (by simpa using hm') hcap (capOK_mono (fr_sub hm n) (capOK_exp hc)) ?_ (fun i hi j hj => ?_) ?_
   ·intro e he
    obtain ⟨e',he',rfl⟩ := List.mem_map.1 he
    rw [hcells,List.length_map]; exact hsz e' he'
   ·have := him i hi j hj
    exact ⟨(fr_sub hm n).1 _ _ _ this.1,this.2⟩
   ·intro i hi j hj
    have hi' : i < l.length := by simpa using hi
    have hj' : j < l[i].cells.length := by simpa [hcells] using hj
    have := ih i hi' j hj' (lb' := noLB)
    simpa [hcells] using this
  | agg _ l a hs h1 _ ih =>
   simp only [frz,frzW,frzWs_eq]
   refine .agg _ _ a (by simpa using hs) h1 fun i hi hi' => ?_
   simp only [List.getElem_map]
   exact ih i (by simpa using hi) hi'
  | tup _ l a hs _ ih =>
   simp only [frz,frzW,frzWs_eq]
   refine .tup _ _ a (by simpa using hs) fun i hi hi' => ?_
   simp only [List.getElem_map]
   exact ih i (by simpa using hi) hi'
  | fn _ f f' l m' a b hs ht hy _ _ ih1 ih2 =>
   simp only [frz,frzW,frzWs_eq]
   split
   ·rename_i hf
    refine .fn _ f f' _ _ a b (by simpa using hs) (by simpa using ht) ?_ (fun i hi hi' => ?_) (fun i hi hi' => ?_)
    ·cases f <;> cases f' <;> first | exact hy | exact hy.elim | skip
     simp only [Fn.below,decide_eq_true_eq] at hf
     simp only [FnR,Gh.fr,Gh.cut,hf,if_true]
     exact hy
    ·simp only [List.getElem_map]
     exact ih1 i (by simpa using hi) hi'
    ·simp only [List.getElem_map]
     exact ih2 i (by simpa using hi) hi'
   ·exact .junk _ _ rfl
  | nilfn => exact .nilfn _
  | iface _ t v x _ ih => exact .iface _ t _ x ih
  | nilif => exact .nilif _
  | map _ id b h =>
   simp only [frz,frzW]
   split
   ·rename_i hi; exact .map _ id b (by simp only [Gh.fr,Gh.cut,hi,if_true]; exact h)
   ·exact .junk _ _ rfl
  | nilmap => exact .nilmap _
theorem fr_mem {n : Nat} {m' : Mem} (hm : MemR g own LC mem w) (h : MemR (g.cut n) (ownCut n own) LC m' w) : MemR (g.fr own w n) (ownCut n own) LC m' w := by
 refine h.keep (fr_sub hm n) (fun _ h => h) (fun _ _ h => h) (fun id b hb => ⟨rfl,rfl,fun o => ?_⟩) (fun b o x hx => fr_im hm n b o x hx)
 have h1 := (ownCut_some hb).1
 have h2 : id < n := by
  simp only [ownCut,h1] at hb
  split at hb
  ·assumption
  ·cases hb
 simp only [Gh.fr,h1]
 rw [if_neg (by omega)]
 rfl
end
end Go.Abs
namespace Go.Abs
def CalledR (F : Fence) (n : Nat) (P : Program) (run : Result Next) (w : World) (R : Value -> World -> Prop) : Prop :=
 (∃ (f : FuncId) (as : Array Value),run = .ok (.enter f as) w /\ CallsIn F n P f as w fun e w' => ∃ x,e = .returned x /\ R x w') ∨
 (∃ x w',run = .ok (.value x) w' /\ R x w') ∨
 (∃ (l : Nat) (f : FuncId) (tmps : Array Value) (assign body : Code),run = .ok (.round l f tmps assign body) w ∧
  RoundIn F n P l f tmps assign body w fun e w' => ∃ x,e = .returned x /\ R x w')
def PrimOK (F : Fence) (P : Program) (base : Nat) (LC : LCR) (gl : Nat -> AV) (f : FuncId) (p : Prim) : Prop :=
 ∀ (n : Nat) (g : Gh) (own : OW) (mem : Mem) (w : World) (args : List AV) (r : AV) (m' : Mem) (vargs : Array Value),
  MemR g own LC mem w -> OwnR base own w -> GlR g gl -> PW (VR g noLB) args vargs.toList -> p args mem = some (r,m') →
  CalledR F n P ((callFunc f vargs).run P w) w (CallPost base LC gl g own w r m')
def LCof (P : Program) : LCR := fun N a c => ∃ esc,a = cCode P esc N false c
structure FnOK (P : Program) (f : FuncId) (g : AF) : Prop where
 ex : ∃ fn c esc,P.funcs[f]? = some fn /\ fn.body = some c /\ (fn.name == "runtime.NumGoroutine") = false /\ g.code = cCode P esc fn.ntmps true c /\ cRess P fn.results.toList = some g.results
structure CfgOK (F : Fence) (P : Program) (base : Nat) (C : Cfg) : Prop where
 fs : ∀ f g,C.fs f = some g -> FnOK P f g
 prim : ∀ f p,C.prim f = some p -> PrimOK F P base (LCof P) C.gl f p
 primK : ∀ f p,C.prim f = some p -> ∀ args m r m',p args m = some (r,m') -> KM m m'
 primE : ∀ f p,C.prim f = some p -> (∃ fn,P.funcs[f]? = some fn /\ fn.body.isNone = false /\ (fn.name == "runtime.NumGoroutine") = false) ∨
  ∀ first cap l mem,p ((first ++ [.fn (.yield l) [] []] ++ cap).map (exp mem.blks.length (C.keep f))) mem = none
section
variable {F : Fence} {n : Nat} {P : Program} {esc : Nat -> Bool} {N : Nat} {gl : Nat -> AV} {base : Nat} {LC : LCR} {ent : Nat} {callv : CallV}
variable {g : Gh} {lb : LB} {own : OW} {s : St} {a : Act} {w : World}
theorem cv_enter {C : Cfg} (hC : CfgOK F P base C) : ∀ k,EnterOK P (cv C k) := by
 intro k
 cases k with
 | zero => intro f first cap l mem r h; simp [cv] at h
 | succ k =>
  intro f first cap l mem r h
  simp only [cv,body] at h
  split at h
  ·rename_i p hp
   rcases hC.primE f p hp with h1 | h1
   ·exact h1
   ·rw [h1] at h; cases h
  ·split at h
   ·rename_i g hg
    obtain ⟨fn,c,esc,h1,h2,h3,h4,h5⟩ := (hC.fs f g hg).ex
    exact ⟨fn,h1,by simp [h2],h3⟩
   ·cases h
theorem ownM_m {own : OW} {b id : Nat} (h : own b = some (.m id)) : ownM own b = some (.m id) := by simp [ownM,h]
theorem ownM_none {own : OW} {b : Nat} (h : own b = none) : ownM own b = none := by simp [ownM,h]
theorem MemR.ownM {mem : Mem} (h : MemR g own LC mem w) : MemR g (ownM own) LC mem w :=
 h.keep g.sub_refl (fun _ h => h) (fun _ _ h => h) (fun id b hb => ⟨by rw [ownM_m hb,hb],rfl,fun _ => rfl⟩) h.im
theorem MemR.touch {mem : Mem} (h : MemR g own LC mem w) (t : List Nat) : MemR g own LC { blks := mem.blks,touched := t } w := ⟨h.dom,h.rdom,h.blk,h.im⟩
theorem OwnR.ownM (h : OwnR base own w) : OwnR base (ownM own) w := ⟨fun b o hb => h.ge b o (ownM_some hb).1,h.base⟩
theorem getD_enter (args : Array Value) (k t : Nat) : (args ++ Array.replicate k undef).getD t undef = args.getD t undef := by
 simp only [Array.getD_eq_getD_getElem?,Array.getElem?_append]
 split
 ·rfl
 ·rename_i h
  rw [Array.getElem?_eq_none (xs := args) (by omega)]
  by_cases h2 : t - args.size < k
  ·simp [h2]
  ·simp [h2]
theorem getE_eq (l : List AV) (t : Nat) : getE l t = (l[t]?).getD .undef := by
 induction l generalizing t with
 | nil => simp [getE]
 | cons a l ih => cases t with
  | zero => rfl
  | succ t => simp [getE,ih]
theorem env_enter {args : List AV} {vargs : Array Value} (h : PW (VR g lb) args vargs.toList) (k t : Nat) : VR g lb (getE args t) ((vargs ++ Array.replicate k undef).getD t undef) := by
 rw [getD_enter,getE_eq,Array.getD_eq_getD_getElem?]
 rcases Nat.lt_or_ge t args.length with hlt | hge
 ·have hlt' : t < vargs.size := by have := h.1; simp at this; omega
  have := h.2 t hlt (by simpa using hlt')
  simpa [hlt,hlt'] using this
 ·have hge' : vargs.size <= t := by have := h.1; simp at this; omega
  rw [List.getElem?_eq_none hge,Array.getElem?_eq_none hge']
  exact .undef _
theorem fn_sound (hF : ∀ f,F.fn f) (hd : F.depth = none) (hro : F.round = none) (hcall : CallOK F P base (LCof P) gl callv) (hbody : EnterOK P callv) (hK : KC callv) {m : Nat}
  {f : FuncId} {fn : Func} {c : Code} (hf1 : P.funcs[f]? = some fn) (hf2 : fn.body = some c) {gf : AF} (hf4 : gf.code = cCode P esc fn.ntmps true c) (hf5 : cRess P fn.results.toList = some gf.results)
  {mem : Mem} (hm : MemR g own (LCof P) mem w) (ho : OwnR base own w) (hgl : GlR g gl) {args : List AV} {vargs : Array Value} (hargs : PW (VR g noLB) args vargs.toList) {keep : Bool} {r : AV} {m' : Mem}
  (hx : fin gf keep mem (exec gl callv (aloop m) gf.code { env := args,loc := [],mem := { blks := mem.blks,touched := [] } }) = some (r,m')) :
  CallsIn F n P f vargs w fun e w' => ∃ x,e = .returned x /\ CallPost base (LCof P) gl g own w r m' x w' := by
 generalize hex : exec gl callv (aloop m) gf.code _ = y at hx
 cases y with
 | none => simp [fin] at hx
 | some y =>
 obtain ⟨ex,s'⟩ := y
 have hKM := exec_K hK (aloop_K m) _ _ _ _ hex
 rw [hf4] at hex
 have hs0 : SR gl base fn.ntmps (LCof P) w.heap.size g noLB (ownM own) { env := args,loc := [],mem := { blks := mem.blks,touched := [] } }
   { tmps := vargs ++ Array.replicate (fn.ntmps - vargs.size) undef,defers := [] } w := by
  refine ⟨fun t => env_enter hargs _ t,hgl,by simp; omega,Marks.nil (Nat.le_refl _),hm.ownM.touch _,⟨fun d v l h => (by cases h),fun d v s p h => (by cases h),fun d v b h => (by cases h)⟩,ho.ownM⟩
 refine callsIn_of_wp_marks hf1 hf2 (hF f) ?_ hro
 refine code_sound hF hd hcall hbody hK (fun c => ⟨esc,rfl⟩) m c true (fun _ => hro) g noLB (ownM own) _ ex s' _ w _ hs0 hex fun g' lb' own' a' w' h1 h2 => ?_
 have hkey : (match gets s' gf.results with
   | some l => if keep then some (exp s'.mem.blks.length true (tupled l),({ blks := s'.mem.blks,touched := mem.touched ++ s'.mem.touched } : Mem))
    else some (frz s'.mem.blks mem.blks.length 8 (tupled l),mem.back s'.mem)
   | none => none) = some (r,m') -> LeavesInM F n P fn a'.tmps (fun e w' => ∃ x,e = Ending.returned x /\ CallPost base (LCof P) gl g own w r m' x w') a'.defers .returning w' := by
  intro hx
  obtain ⟨h0,ms,hnd,hde,hms⟩ := h2.defers
  have h2' : SR gl base fn.ntmps (LCof P) w.heap.size g' lb' own' s' { tmps := a'.tmps,defers := ms.map markOf } w' := by
   rw [<- hde]; exact h2
  rw [hde]
  refine take_marks (Nat.le_refl _) ms w' hnd hms h1 h2' fun w2 k1 k2 => ?_
  split at hx
  ·rename_i l hl
   obtain ⟨x,q1,q2⟩ := results_spec k2 hf5 hl
   refine ⟨x,q1,x,rfl,?_⟩
   split at hx
   ·simp only [Option.some.injEq,Prod.mk.injEq] at hx
    obtain ⟨rfl,rfl⟩ := hx
    refine ⟨g',ownM own',⟨k1.sub,k1.size,k1.os,k1.tape,k1.output,k1.keep,fun b hb h => ownM_none (k1.unown b hb h),k1.im⟩,k2.mem.ownM.touch _,(q2.exp _ _).sub (g'.cut_sub _),k2.own.ownM,fun b d hb => ?_,k2.gl⟩
    obtain ⟨_,id,h⟩ := ownM_some hb; cases h
   ·simp only [Option.some.injEq,Prod.mk.injEq] at hx
    obtain ⟨rfl,rfl⟩ := hx
    have hb := back_spec hm (extra := []) k2.mem (by rw [List.append_nil]; exact hKM)
    have hsub : g.sub (g'.cut mem.blks.length) := by
     refine ⟨fun b o y hy => k1.sub.1 b o y hy,fun id b hb => ?_,fun t k y hy => ?_⟩
     ·simp only [Gh.cut]; rw [if_pos (hm.dom id b hb)]; exact k1.sub.2.1 _ _ hb
     ·simp only [Gh.cut]; rw [if_pos (hm.rdom t k y hy)]; exact k1.sub.2.2 _ _ _ hy
    refine ⟨g'.fr own' w2 mem.blks.length,ownCut mem.blks.length own',⟨Gh.sub_trans hsub (fr_sub k2.mem _),k1.size,k1.os,k1.tape,k1.output,k1.keep,fun b hb h => ownCut_none (k1.unown b hb h),fun b hb h o => ?_⟩,fr_mem k2.mem hb,frz_spec k2.mem _ _ q2,
     ⟨fun b o hb => k2.own.ge b o (ownCut_some hb).1,k2.own.base⟩,fun b d hb => ?_,hgl.mono (Gh.sub_trans hsub (fr_sub k2.mem _))⟩
    ·have hu := k1.unown b hb h
     have : (g'.fr own' w2 mem.blks.length).im b o = g'.im b o := by simp only [Gh.fr,hu]
     rw [this]; exact k1.im b hb h o
    obtain ⟨_,id,h⟩ := ownCut_some hb; cases h
  ·cases hx
 cases ex with
 | exit i => simp [fin] at hx
 | normal => exact hkey hx
 | ret => exact hkey hx
end
end Go.Abs
namespace Go.Abs
section
variable {F : Fence} {n : Nat} {P : Program} {esc : Nat -> Bool} {N : Nat} {gl : Nat -> AV} {base : Nat} {LC : LCR} {ent : Nat} {callv : CallV}
variable {g : Gh} {lb : LB} {own : OW} {s : St} {a : Act} {w : World}
theorem ls_some {m : Mem} {l : Nat} {st : LS} (h : m.ls l = some st) : ∃ e p q c,m.blks[l]? = some (.loop e p q c st) := by
 unfold Mem.ls at h
 split at h
 ·rename_i e p q c st' he; cases h; exact ⟨e,p,q,c,he⟩
 ·cases h
theorem setLS_sound (hs : SR gl base N LC ent g lb own s a w) {l b : Nat} (hb : g.mb l = some b) {st0 : LS} (hls : s.mem.ls l = some st0) {st : LS} {L L' : Loop} (hL : w.heap[b]? = some (.loop L))
  (h1 : L'.tmps = L.tmps) (h2 : L'.params = L.params) (h3 : L'.assign = L.assign) (h4 : L'.body = L.body) (hst : LSR st L') :
  ∃ g' lb' own',Steps' g own w g' own' (setObjW w b (.loop L')) /\ SR gl base N LC ent g' lb' own' { s with mem := s.mem.setLS l st } a (setObjW w b (.loop L')) := by
 obtain ⟨e,p,q,c,hblk⟩ := ls_some hls
 obtain ⟨b',b1,b2,b3,L2,N2,b4,b5,b6,b7,b8,b9,b10,b11,b12⟩ := hs.mem.blk l _ hblk
 rw [hb] at b1; cases b1
 rw [hL] at b4; cases b4
 have hid : l < s.mem.blks.length := (List.getElem?_eq_some_iff.1 hblk).1
 have hp := setObj_post (x := .loop L') (blk := .loop e p q c st) hs.mem hs.loc hs.own b2 hid b3
  ⟨b,hb,b2,b3,L',N2,setObjW_at hL _,by rw [h1]; exact b5,by rw [h2]; exact b6,by rw [h1]; exact b7,b8,by rw [h3]; exact b9,by rw [h4]; exact b10,hst,b12⟩
 obtain ⟨g',lb',own',k1,k2⟩ := hs.after (dst := none) rfl hp
 refine ⟨g',lb',own',k1,?_⟩
 have : s.mem.setLS l st = s.mem.put l (.loop e p q c st) true := by simp only [Mem.setLS,hblk,Mem.put,if_true]
 rw [this]; exact k2
theorem begin_sound (hs : SR gl base N LC ent g lb own s a w) {l b : Nat} (hb : g.mb l = some b) (hls : s.mem.ls l = some .ready) :
  ∃ w',(Instr.beginRound b).run P w = .ok () w' /\ ∃ g' lb' own',Steps' g own w g' own' w' /\ SR gl base N LC ent g' lb' own' { s with mem := s.mem.setLS l .busy } a w' := by
 obtain ⟨e,p,q,c,hblk⟩ := ls_some hls
 obtain ⟨b',b1,b2,b3,L,N2,b4,b5,b6,b7,b8,b9,b10,b11,b12⟩ := hs.mem.blk l _ hblk
 rw [hb] at b1; cases b1
 obtain ⟨g',lb',own',k1,k2⟩ := setLS_sound hs hb hls (st := .busy) (L' := { L with state := .busy }) b4 rfl rfl rfl rfl rfl
 refine ⟨_,?_,g',lb',own',k1,k2⟩
 have q1 : (getObj b).run P w = .ok (.loop L) w := by simp only [getObj,Sem.run,b4]
 have q2 : ∀ y,(setObj b y).run P w = .ok () (setObjW w b y) := fun y => by simp only [setObj,Sem.run,b4]; rfl
 simp only [Instr.beginRound,Instr.getLoop,Sem.run_bind,q1,Result.andThen_ok,Sem.run_pure,q2,b11.1]
theorem end_sound (hs : SR gl base N LC ent g lb own s a w) {l b : Nat} (hb : g.mb l = some b) (hls : s.mem.ls l = some .busy) {jump : Option Code} {st : LS}
  (hj : (jump = none /\ st = .ready) \/ (jump = some .ret /\ st = .done none) \/ ∃ i,jump = some (.exit i) /\ st = .done (some i)) :
  ∃ w',(Instr.endRound b jump).run P w = .ok (.bool jump.isNone) w' /\ ∃ g' lb' own',Steps' g own w g' own' w' /\ SR gl base N LC ent g' lb' own' { s with mem := s.mem.setLS l st } a w' := by
 obtain ⟨e,p,q,c,hblk⟩ := ls_some hls
 obtain ⟨b',b1,b2,b3,L,N2,b4,b5,b6,b7,b8,b9,b10,b11,b12⟩ := hs.mem.blk l _ hblk
 rw [hb] at b1; cases b1
 obtain ⟨g',lb',own',k1,k2⟩ := setLS_sound hs hb hls (st := st) (L' := { L with state := if jump.isNone then .ready else .done,pending := jump }) b4 rfl rfl rfl rfl (by
  rcases hj with ⟨rfl,rfl⟩ | ⟨rfl,rfl⟩ | ⟨i,rfl,rfl⟩
  ·exact ⟨rfl,rfl⟩
  ·exact ⟨rfl,trivial⟩
  ·exact ⟨rfl,rfl⟩)
 refine ⟨_,?_,g',lb',own',k1,k2⟩
 have q1 : (getObj b).run P w = .ok (.loop L) w := by simp only [getObj,Sem.run,b4]
 have q2 : ∀ y,(setObj b y).run P w = .ok () (setObjW w b y) := fun y => by simp only [setObj,Sem.run,b4]; rfl
 simp only [Instr.endRound,Instr.getLoop,Sem.run_bind,q1,Result.andThen_ok,Sem.run_pure,q2]
theorem setPs_spec {N : Nat} : ∀ (ps : List Nat) (args : List AV) (vargs : List Value) (env : List AV) (tmps : Array Value),ps.length = args.length -> PW (VR g noLB) args vargs -> N <= tmps.size -> (∀ p ∈ ps,p < N) →
  (∀ t,VR g noLB (getE env t) (tmps.getD t undef)) →
  (∀ t,VR g noLB (getE (setPs env ps args) t) (((ps.zip vargs).foldl (fun tmps (x : Nat × Value) => tmps.setIfInBounds x.1 x.2) tmps).getD t undef)) ∧
   N <= ((ps.zip vargs).foldl (fun tmps (x : Nat × Value) => tmps.setIfInBounds x.1 x.2) tmps).size := by
 intro ps
 induction ps with
 | nil =>
  intro args vargs env tmps hl hpw hN hp hv
  cases args with
  | nil => exact ⟨by simpa [setPs] using hv,by simpa using hN⟩
  | cons a args => simp at hl
 | cons p ps ih =>
  intro args vargs env tmps hl hpw hN hp hv
  cases args with
  | nil => simp at hl
  | cons x args =>
   cases vargs with
   | nil => exact absurd hpw.1 (by simp)
   | cons y vargs =>
    simp only [setPs,List.zip_cons_cons,List.foldl_cons]
    refine ih args vargs (setE env p x) (tmps.setIfInBounds p y) (by simpa using hl) ⟨by simpa using hpw.1,fun i hi hi' => by have := hpw.2 (i + 1) (by simpa using hi) (by simpa using hi'); simpa using this⟩ (by simpa using hN) (fun q hq => hp q (List.mem_cons_of_mem _ hq)) fun t => ?_
    rw [getE_setE,Array.getD_eq_getD_getElem?,Array.getElem?_setIfInBounds]
    have hpl := hp p (by simp)
    by_cases hpt : p = t
    ·subst hpt
     rw [if_pos rfl,if_pos rfl,if_pos (by omega)]
     exact hpw.2 0 (by simp) (by simp)
    ·rw [if_neg hpt,if_neg hpt,<- Array.getD_eq_getD_getElem?]
     exact hv t
theorem CallOK.inRound (h : CallOK F P base LC gl callv) (b : Nat) : CallOK (F.inRound b) P base LC gl callv :=
 fun n g lb own mem w fv args r m' fx vargs h1 h2 h3 h4 h5 h6 => h n g lb own mem w fv args r m' fx vargs h1 h2 h3 h4 h5 h6
theorem round_sound (hF : ∀ f,F.fn f) (hd : F.depth = none) (hcall : CallOK F P base (LCof P) gl callv) (hbody : EnterOK P callv) (hK : KC callv) {m : Nat}
  {l b : Nat} (hb : g.mb l = some b) {mem : Mem} (hm : MemR g own (LCof P) mem w) (ho : OwnR base own w) (hgl : GlR g gl) {args : List AV} {vargs : Array Value} (hargs : PW (VR g lb) args vargs.toList) {r : AV} {m' : Mem}
  (hx : round (exec gl callv (aloop m)) l args mem = some (r,m')) :
  ∃ fid tmps asg bod,(Instr.yield b vargs).run P w = .ok (.round b fid tmps asg bod) w ∧
   RoundIn F n P b fid tmps asg bod w fun e w' => ∃ x,e = .returned x /\ CallPost base (LCof P) gl g own w r m' x w' := by
 unfold round at hx
 split at hx
 ·rename_i env ps asg body st hblk
  split at hx
  ·rename_i hlen
   split at hx
   ·rename_i s1 hasg
    split at hx
    ·rename_i hls1
     obtain ⟨b',b1,b2,b3,L,N,b4,b5,b6,b7,b8,b9,b10,b11,b12⟩ := hm.blk l _ hblk
     rw [hb] at b1; cases b1
     obtain ⟨esc1,he1⟩ := b9
     obtain ⟨esc2,he2⟩ := b10
     have hsz : args.length = vargs.size := by simpa using hargs.1
     have hargs' : PW (VR g noLB) (args.map (exp mem.blks.length false)) vargs.toList := hargs.map _ fun a b h => (h.exp _ _).sub (g.cut_sub _)
     obtain ⟨v1,v2⟩ := setPs_spec ps (args.map (exp mem.blks.length false)) vargs.toList env L.tmps (by simpa using hlen) hargs' b7 b8 b5
     have hfold : (L.params.zip vargs).foldl (fun tmps (x : Nat × Value) => tmps.setIfInBounds x.1 x.2) L.tmps = (ps.zip vargs.toList).foldl (fun tmps (x : Nat × Value) => tmps.setIfInBounds x.1 x.2) L.tmps := by
      rw [<- Array.foldl_toList,Array.toList_zip,b6]
     refine ⟨L.fn,(ps.zip vargs.toList).foldl (fun tmps (x : Nat × Value) => tmps.setIfInBounds x.1 x.2) L.tmps,L.assign,L.body,?_,roundIn_of_wpIn (hF _) ?_⟩
     ·have q1 : (getObj b).run P w = .ok (.loop L) w := by simp only [getObj,Sem.run,b4]
      have hps : vargs.size = L.params.size := by rw [b6]; simp; omega
      simp only [Instr.yield,Instr.getLoop,Sem.run_bind,q1,Result.andThen_ok,Sem.run_pure]
      rw [if_neg (by simp [hps]),<- hfold]
      rfl
     ·have hs0 : SR gl base N (LCof P) w.heap.size g noLB (ownM own) { env := setPs env ps (args.map (exp mem.blks.length false)),loc := [],mem := mem }
        { tmps := (ps.zip vargs.toList).foldl (fun tmps (x : Nat × Value) => tmps.setIfInBounds x.1 x.2) L.tmps,defers := [] } w :=
       ⟨v1,hgl,v2,Marks.nil (Nat.le_refl _),hm.ownM,⟨fun d v l h => (by cases h),fun d v s p h => (by cases h),fun d v b h => (by cases h)⟩,ho.ownM⟩
      rw [he1] at hasg
      refine code_sound (F := F.inRound b) hF hd (hcall.inRound b) hbody hK (fun c => ⟨esc1,rfl⟩) m L.assign false (by simp) g noLB (ownM own) _ .normal s1 _ w _ hs0 hasg fun g1 lb1 own1 a1 w1 h1 h2 => ?_
      obtain ⟨w2,hbeg,g2,lb2,own2,h3,h4⟩ := begin_sound (P := P) h2 (h1.sub.2.1 _ _ hb) hls1
      refine ⟨w2,hbeg,?_⟩
      have fin : ∀ (ex : Ex) (s2 : St) (jump : Option Code) (st' : LS),((jump = none /\ st' = .ready) \/ (jump = some .ret /\ st' = .done none) \/ ∃ i,jump = some (.exit i) /\ st' = .done (some i)) →
        exec gl callv (aloop m) body { s1 with mem := s1.mem.setLS l .busy } = some (ex,s2) -> s2.mem.ls l = some .busy -> r = .bool jump.isNone -> m' = s2.mem.setLS l st' →
        (∀ a3 w3,(∃ v w',(Instr.endRound b jump).run P w3 = .ok v w' /\ ∃ x,Ending.returned v = .returned x /\ CallPost base (LCof P) gl g own w r m' x w') →
         roundPost P b (fun e w' => ∃ x,e = .returned x /\ CallPost base (LCof P) gl g own w r m' x w') ex.exit' a3 w3) →
        L.body.wpIn (F.inRound b) n P (roundPost P b fun e w' => ∃ x,e = .returned x /\ CallPost base (LCof P) gl g own w r m' x w') a1 w2 := by
       intro ex s2 jump st' hj hbod hls2 hr hm' hpost
       rw [he2] at hbod
       refine code_sound (F := F.inRound b) hF hd (hcall.inRound b) hbody hK (fun c => ⟨esc2,rfl⟩) m L.body false (by simp) g2 lb2 own2 _ ex s2 _ w2 _ h4 hbod fun g3 lb3 own3 a3 w3 h5 h6 => ?_
       obtain ⟨w4,hend,g4,lb4,own4,h7,h8⟩ := end_sound (P := P) h6 (h5.sub.2.1 _ _ (h3.sub.2.1 _ _ (h1.sub.2.1 _ _ hb))) hls2 hj
       refine hpost a3 w3 ⟨_,w4,hend,_,rfl,?_⟩
       have k := ((h1.trans h3).trans h5).trans h7
       subst hr hm'
       refine ⟨g4,ownM own4,⟨k.sub,k.size,k.os,k.tape,k.output,k.keep,fun b hb h => ownM_none (k.unown b hb h),k.im⟩,h8.mem.ownM,.bool _ _,h8.own.ownM,fun b d hb => ?_,h8.gl⟩
       obtain ⟨_,id,h⟩ := ownM_some hb; cases h
      split at hx
      ·rename_i s2 hbod
       split at hx
       ·rename_i hls2
        cases hx
        exact fin .normal s2 none .ready (.inl ⟨rfl,rfl⟩) hbod hls2 rfl rfl fun a3 w3 h => h
       ·cases hx
      ·rename_i s2 hbod
       split at hx
       ·rename_i hls2
        cases hx
        exact fin .ret s2 (some .ret) (.done none) (.inr (.inl ⟨rfl,rfl⟩)) hbod hls2 rfl rfl fun a3 w3 h => h
       ·cases hx
      ·rename_i i s2 hbod
       split at hx
       ·rename_i hls2
        cases hx
        exact fin (.exit i) s2 (some (.exit i)) (.done (some i)) (.inr (.inr ⟨i,rfl,rfl⟩)) hbod hls2 rfl rfl fun a3 w3 h => h
       ·cases hx
      ·cases hx
    ·cases hx
   ·cases hx
  ·cases hx
 ·cases hx
theorem cv_sound (hF : ∀ f,F.fn f) (hd : F.depth = none) (hro : F.round = none) {C : Cfg} (hC : CfgOK F P base C) : ∀ k,CallOK F P base (LCof P) C.gl (cv C k) := by
 intro k
 induction k with
 | zero => intro n g lb own mem w fv args r m' fx vargs _ _ _ _ _ h; simp [cv] at h
 | succ k ih =>
  intro n g lb own mem w fv args r m' fx vargs hm ho hgl hfv hargs hx
  simp only [cv,body] at hx
  split at hx
  ·rename_i f first cap
   obtain ⟨As,Bs,rfl,hAs,hBs⟩ : ∃ As Bs,fx = .func (.func f) As Bs /\ PW (VR g lb) first As.toList /\ PW (VR g lb) cap Bs.toList := by
    cases hfv with
    | fn _ _ f2 _ _ As Bs hs ht hy hv hw =>
     cases f2 <;> first | exact hy.elim | skip
     cases hy
     exact ⟨As,Bs,rfl,⟨by simpa using hs.symm,fun i hi hi' => by simpa using hv i hi (by simpa using hi')⟩,⟨by simpa using ht.symm,fun i hi hi' => by simpa using hw i hi (by simpa using hi')⟩⟩
   have hrun : (do let d <- Deferred.ofValue (.func (.func f) As Bs) vargs; invoke d.target d.args : Sem Next).run P w = (callFunc f (As ++ vargs ++ Bs)).run P w := by
    simp only [Deferred.ofValue,Sem.run_bind,Sem.run_pure,Result.andThen_ok,invoke]
   have hall : PW (VR g noLB) ((first ++ args ++ cap).map (exp mem.blks.length (C.keep f))) (As ++ vargs ++ Bs).toList := by
    have := (hAs.append hargs).append hBs
    simp only [Array.toList_append]
    exact this.map _ fun a b h => (h.exp _ _).sub (g.cut_sub _)
   unfold Called
   rw [hrun]
   split at hx
   ·rename_i p hp
    exact hC.prim f p hp n g own mem w _ r m' _ hm ho hgl hall hx
   ·split at hx
    ·rename_i gf hg
     obtain ⟨fn,c,esc,h1,h2,h3,h4,h5⟩ := (hC.fs f gf hg).ex
     exact .inl ⟨f,_,run_callFunc h1 (by simp [h2]) h3,fn_sound hF hd hro ih (cv_enter hC k) (cv_K C hC.primK k) h1 h2 h4 h5 hm ho hgl hall hx⟩
    ·cases hx
  ·rename_i l
   obtain ⟨b,rfl,hb⟩ : ∃ b,fx = .func (.yield b) #[] #[] /\ g.mb l = some b := by
    cases hfv with
    | fn _ _ f2 _ _ As Bs hs ht hy hv hw =>
     cases f2 <;> first | exact hy.elim | skip
     have e1 : As = #[] := Array.size_eq_zero_iff.1 hs
     have e2 : Bs = #[] := Array.size_eq_zero_iff.1 ht
     subst e1 e2
     exact ⟨_,rfl,hy⟩
   obtain ⟨fid,tmps,asg,bod,h1,h2⟩ := round_sound (n := n) hF hd ih (cv_enter hC k) (cv_K C hC.primK k) hb hm ho hgl hargs hx
   refine .inr (.inr ⟨b,fid,tmps,asg,bod,?_,h2⟩)
   simp only [Deferred.ofValue,Sem.run_bind,Sem.run_pure,Result.andThen_ok,invoke]
   have : (#[] ++ vargs : Array Value) = vargs := by simp
   rw [this]; exact h1
  ·cases hx
end
end Go.Abs
