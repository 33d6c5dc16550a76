/- A text of this proof. -/
import Derived.Test.YtiigojkfojnedaaGreatDoorPD
set_option linter.unusedVariables false
set_option linter.unusedSimpArgs false
namespace Go.Abs
def PW {α β : Type} (R : α -> β -> Prop) (l : List α) (m : List β) : Prop := l.length = m.length /\ ∀ i (h : i < l.length) (h' : i < m.length),R l[i] m[i]
section
variable {α β : Type} {R : α -> β -> Prop}
theorem PW.append {l l' : List α} {m m' : List β} (h : PW R l m) (h' : PW R l' m') : PW R (l ++ l') (m ++ m') := by
 refine ⟨by simp [h.1,h'.1],fun i hi hi' => ?_⟩
 rcases Nat.lt_or_ge i l.length with hlt | hge
 ·rw [List.getElem_append_left hlt,List.getElem_append_left (by have := h.1; omega)]
  exact h.2 i hlt _
 ·rw [List.getElem_append_right hge,List.getElem_append_right (by have := h.1; omega)]
  have he : i - m.length = i - l.length := by rw [h.1]
  have := h'.2 (i - l.length) (by simp at hi; omega) (by simp at hi'; have := h.1; omega)
  simpa [h.1] using this
theorem PW.take {l : List α} {m : List β} (h : PW R l m) (n : Nat) : PW R (l.take n) (m.take n) := by
 refine ⟨by simp [h.1],fun i hi hi' => ?_⟩
 simp only [List.getElem_take]
 exact h.2 i _ _
theorem PW.drop {l : List α} {m : List β} (h : PW R l m) (n : Nat) : PW R (l.drop n) (m.drop n) := by
 refine ⟨by simp [h.1],fun i hi hi' => ?_⟩
 simp only [List.getElem_drop]
 exact h.2 _ _ _
theorem PW.mono {R' : α -> β -> Prop} {l : List α} {m : List β} (h : PW R l m) (hr : ∀ a b,R a b -> R' a b) : PW R' l m := ⟨h.1,fun i hi hi' => hr _ _ (h.2 i hi hi')⟩
theorem PW.map {γ : Type} {R' : γ -> β -> Prop} {l : List α} {m : List β} (f : α -> γ) (h : PW R l m) (hr : ∀ a b,R a b -> R' (f a) b) : PW R' (l.map f) m :=
 ⟨by simp [h.1],fun i hi hi' => by simp only [List.getElem_map]; exact hr _ _ (h.2 i (by simpa using hi) hi')⟩
theorem PW.nil : PW R ([] : List α) ([] : List β) := ⟨rfl,fun i h => by simp at h⟩
theorem PW.cons {a : α} {b : β} {l : List α} {m : List β} (h : R a b) (hl : PW R l m) : PW R (a :: l) (b :: m) := by
 refine ⟨by simp [hl.1],fun i hi hi' => ?_⟩
 cases i with
 | zero => exact h
 | succ i => exact hl.2 i (by simpa using hi) (by simpa using hi')
end
section
variable {base : Nat} {LC : LCR} {g g' : Gh} {lb lb' : LB} {own own' : OW} {loc : Nat -> Option (Nat × Blk)} {mem : Mem} {w w' : World}
def arr (cur : Array Value) (off : Nat) (vs : List Value) : Array Value := (cur.toList.take off ++ vs ++ cur.toList.drop (off + vs.length)).toArray
theorem CellsR.pw {nm : Own} {b : Nat} {l : List AV} (h : CellsR g lb own w nm b l) : ∃ a e,w.heap[b]? = some (.cells a e (0,0)) /\ PW (VR g lb) l a.toList /\ ∀ v ∈ a.toList,v.oneCell' = true := by
 obtain ⟨_,_,a,e,h3,h4,h5,h6⟩ := h
 refine ⟨a,e,h3,⟨by simpa using h4.symm,fun i hi hi' => by simpa using h5 i hi (by simpa using hi')⟩,fun v hv => ?_⟩
 obtain ⟨i,hi,rfl⟩ := List.mem_iff_getElem.1 hv
 simpa using h6 i (by simpa using hi)
theorem CellsR.store {nm : Own} {b : Nat} {l : List AV} (h : CellsR g lb own w nm b l) {off : Nat} {cs : List AV} {vs : List Value} (hpw : PW (VR g lb) cs vs) (h1 : ∀ v ∈ vs,v.oneCell' = true)
  (hle : off + cs.length <= l.length) :
  ∃ a e,w.heap[b]? = some (.cells a e (0,0)) /\ off + vs.length <= a.size /\ CellsR g lb own (w.setRow b (arr a off vs)) nm b (splice l off cs) := by
 obtain ⟨a,e,ha,hp,ho⟩ := h.pw
 have hl : l.length = a.size := by simpa using hp.1
 have hc := hpw.1
 have hsp : PW (VR g lb) (splice l off cs) (a.toList.take off ++ vs ++ a.toList.drop (off + vs.length)) := by
  unfold splice; rw [hc]
  exact ((hp.take off).append hpw).append (hp.drop _)
 refine ⟨a,e,ha,by omega,h.1,h.2.1,arr a off vs,e,setRow_heap w b a _ e _ ha,?_,?_,?_⟩
 ·simpa [arr] using hsp.1.symm
 ·intro i hi hi'
  have := hsp.2 i hi (by simpa [arr] using hi')
  simpa [arr] using this
 ·intro i hi
  have hm : (arr a off vs)[i] ∈ (a.toList.take off ++ vs ++ a.toList.drop (off + vs.length)) := by
   simp [arr]
  rcases List.mem_append.1 hm with hm | hm
  ·rcases List.mem_append.1 hm with hm | hm
   ·exact ho _ (List.mem_of_mem_take hm)
   ·exact h1 _ hm
  ·exact ho _ (List.mem_of_mem_drop hm)
theorem MemR.setRow_other (h : MemR g own LC mem w) {b : Nat} (a : Array Value) (hb : ∀ id,own b ≠ some (.m id)) (him : ∀ o,g.im b o = none) : MemR g own LC mem (w.setRow b a) := by
 refine h.keep g.sub_refl (fun _ h => h) (fun _ _ h => h) (fun id b' hb' => ⟨rfl,Go.setRow_other w b b' a ?_,fun _ => rfl⟩) (fun b' o x hx => ?_)
 ·rintro rfl; exact hb id hb'
 ·have hne : b' ≠ b := by rintro rfl; rw [him] at hx; cases hx
  rw [cell?_of_heap (Go.setRow_other w b b' a hne)]
  exact h.im _ _ _ hx
theorem LocR.setRow_other (h : LocR g lb own loc w) {b : Nat} (a : Array Value) (hb : ∀ d,own b ≠ some (.l d)) : LocR g lb own loc (w.setRow b a) :=
 h.keep g.sub_refl fun d b' hb' => ⟨rfl,Go.setRow_other w b b' a (by rintro rfl; exact hb d hb'),fun _ => rfl⟩
theorem Steps'.setRow (g : Gh) {own : OW} (w : World) {b : Nat} (a : Array Value) {o : Own} (hb : own b = some o) : Steps' g own w g own (w.setRow b a) := {
 sub := g.sub_refl
 size := by simp
 os := rfl
 tape := rfl
 output := rfl
 keep b' _ ho := Go.setRow_other w b b' a (by rintro rfl; rw [hb] at ho; cases ho)
 unown _ _ h := h
 im _ _ _ _ := rfl }
theorem OwnR.setRow (h : OwnR base own w) (b : Nat) (a : Array Value) : OwnR base own (w.setRow b a) := ⟨fun b' o hb => by simpa using h.ge b' o hb,by simpa using h.base⟩
theorem MemR.upd (h : MemR g own LC mem w) {id0 : Nat} {blk0 : Blk} {t : List Nat} (h0 : id0 < mem.blks.length) (hg : g.sub g') (hdom : ∀ id,g.mb id = none -> g'.mb id = none)
  (hrows : ∀ t n,t ≠ id0 -> g.rows t n = none -> g'.rows t n = none)
  (hb : ∀ id b,id ≠ id0 -> own b = some (.m id) -> own' b = own b /\ w'.heap[b]? = w.heap[b]? /\ ∀ o,g'.im b o = g.im b o)
  (hnew : BlkR g' own' LC w' id0 blk0) (him : ∀ b o x,g'.im b o = some x -> w'.cell? ⟨b,o,none⟩ = some x) :
  MemR g' own' LC { blks := mem.blks.set id0 blk0,touched := t } w' := {
 dom id b hb' := by
  simp only [List.length_set]
  cases hx : g.mb id with
  | none => rw [hdom id hx] at hb'; cases hb'
  | some c => exact h.dom id c hx
 rdom t n x hx := by
  simp only [List.length_set]
  by_cases ht : t = id0
  ·subst ht; exact h0
  ·cases hy : g.rows t n with
   | none => rw [hrows t n ht hy] at hx; cases hx
   | some y => exact h.rdom t n y hy
 blk id blk hid := by
  simp only [List.getElem?_set] at hid
  by_cases hi : id0 = id
  ·subst hi
   rw [if_pos rfl,if_pos h0] at hid
   cases hid; exact hnew
  ·rw [if_neg hi] at hid
   exact (h.blk id blk hid).keep hg (fun b => hb id b (Ne.symm hi)) (fun n => hrows id n (Ne.symm hi)) (hdom id)
 im := him }
theorem wr_spec (hm : MemR g own LC mem w) (hl : LocR g lb own loc w) (ho : OwnR base own w) {p : AV} {x : Value} {cs : List AV} {vs : List Value} (hp : VR g lb p x)
  (hpw : PW (VR g lb) cs vs) (h1 : ∀ v ∈ vs,v.oneCell' = true) {u : Upd} {m' : Mem} (hr : wr loc mem p cs = some (u,m')) :
  ∃ (b off : Nat) (a : Array Value) (e : TypeId),x = .pointer (some ⟨b,off,none⟩) /\ w.heap[b]? = some (.cells a e (0,0)) /\ off + vs.length <= a.size ∧
   Post base LC g lb own loc w .undef u m' undef (w.setRow b (arr a off vs)) := by
 cases p with
 | lptr d v off =>
  cases hp with
  | lptr _ _ _ _ b hb =>
  simp only [wr] at hr
  split at hr
  ·rename_i v' l hd
   split at hr
   ·rename_i hc
    obtain ⟨rfl,hle⟩ := hc
    simp only [Option.some.injEq,Prod.mk.injEq] at hr
    obtain ⟨rfl,rfl⟩ := hr
    obtain ⟨b',hb',hcr⟩ := hl.cells d _ l hd
    rw [hb] at hb'; cases hb'
    obtain ⟨a,e,ha,hsz,hnew⟩ := hcr.store hpw h1 hle
    have hob := hcr.1
    refine ⟨b,off,a,e,rfl,ha,hsz,g,lb,own,.setRow g w _ hob,fun _ _ _ h => h,.undef _,hm.setRow_other _ (fun id => by rw [hob]; simp) hcr.2.1,?_,ho.setRow _ _⟩
    refine ⟨fun d' i l' hd' => ?_,fun d' i s pos hd' => ?_,fun d' i b' hb' => ?_⟩
    ·simp only [updF] at hd'
     split at hd'
     ·rename_i hdd; subst hdd; cases hd'
      exact ⟨b,hb,hnew⟩
     ·rename_i hdd
      obtain ⟨b2,k1,k2⟩ := hl.cells d' i l' hd'
      have hne : b2 ≠ b := by rintro rfl; have := k2.1; rw [hob] at this; cases this; exact hdd rfl
      exact ⟨b2,k1,k2.keep g.sub_refl (fun _ _ _ h => h) rfl (Go.setRow_other w b b2 _ hne) fun _ => rfl⟩
    ·simp only [updF] at hd'
     split at hd'
     ·cases hd'
     ·rename_i hdd
      obtain ⟨b2,k1,k2,k3,bs,k4,k5⟩ := hl.iter d' i s pos hd'
      have hne : b2 ≠ b := by rintro rfl; rw [hob] at k2; cases k2; exact hdd rfl
      exact ⟨b2,k1,k2,k3,bs,(Go.setRow_other w b b2 _ hne).trans k4,k5⟩
    ·obtain ⟨v2,blk2,k1,k2⟩ := hl.ver d' i b' hb'
     by_cases hdd : d = d'
     ·subst hdd
      rw [hd] at k1; cases k1
      exact ⟨_,.cells (splice l off cs),by simp [updF],k2⟩
     ·exact ⟨v2,blk2,by simp [updF,hdd,k1],k2⟩
   ·cases hr
  ·cases hr
 | gptr id off =>
  cases hp with
  | gptr _ _ _ b hb =>
  simp only [wr] at hr
  split at hr
  ·rename_i l hd
   split at hr
   ·rename_i hle
    simp only [Option.some.injEq,Prod.mk.injEq] at hr
    obtain ⟨rfl,rfl⟩ := hr
    obtain ⟨b',hb',hcr⟩ := hm.blk id _ hd
    rw [hb] at hb'; cases hb'
    have hpw' : PW (VR g noLB) (cs.map mem.nol) vs := hpw.map _ fun _ _ h => mem_nol hm h
    obtain ⟨a,e,ha,hsz,hnew⟩ := hcr.store hpw' h1 (by simpa using hle)
    have hob := hcr.1
    refine ⟨b,off,a,e,rfl,ha,hsz,g,lb,own,.setRow g w _ hob,fun _ _ _ h => h,.undef _,?_,hl.setRow_other _ (fun d => by rw [hob]; simp),ho.setRow _ _⟩
    have hid : id < mem.blks.length := hm.dom id b hb
    refine hm.upd hid g.sub_refl (fun _ h => h) (fun _ _ _ h => h) (fun id' b' hne hb' => ⟨rfl,Go.setRow_other w b b' _ ?_,fun _ => rfl⟩) ⟨b,hb,hnew⟩ (fun b' o x hx => ?_)
    ·rintro rfl; rw [hob] at hb'; cases hb'; exact hne rfl
    ·have hne : b' ≠ b := by rintro rfl; rw [hcr.2.1] at hx; cases hx
     rw [cell?_of_heap (Go.setRow_other w b b' _ hne)]
     exact hm.im _ _ _ hx
   ·cases hr
  ·cases hr
 | _ => simp [wr] at hr
end
end Go.Abs
namespace Go.Abs
def FR (g : Gh) (lb : LB) (sz : Nat) (l : List AV) (vs : List Value) : Prop :=
 vs.length = l.length * sz /\ (∀ e ∈ l,e.cells.length = sz) /\ (∀ v ∈ vs,v.oneCell' = true) ∧
  ∀ i (h : i < l.length) j (hj : j < l[i].cells.length) (h' : i * sz + j < vs.length),VR g lb l[i].cells[j] vs[i * sz + j]
theorem idx_lt {i j n sz : Nat} (hi : i < n) (hj : j < sz) : i * sz + j < n * sz := by
 have h1 : (i + 1) * sz <= n * sz := Nat.mul_le_mul_right _ hi
 rw [Nat.add_mul] at h1; omega
section
variable {base : Nat} {LC : LCR} {g g' : Gh} {lb lb' : LB} {own own' : OW} {loc : Nat -> Option (Nat × Blk)} {mem : Mem} {w w' : World}
theorem FR.nil (sz : Nat) : FR g lb sz [] [] := ⟨by simp,by simp,by simp,by simp⟩
theorem FR.append {sz : Nat} {l m : List AV} {vs us : List Value} (h : FR g lb sz l vs) (k : FR g lb sz m us) : FR g lb sz (l ++ m) (vs ++ us) := by
 refine ⟨by simp [h.1,k.1,Nat.add_mul],fun e he => ?_,fun v hv => ?_,fun i hi j hj hij => ?_⟩
 ·rcases List.mem_append.1 he with he | he
  ·exact h.2.1 e he
  ·exact k.2.1 e he
 ·rcases List.mem_append.1 hv with hv | hv
  ·exact h.2.2.1 v hv
  ·exact k.2.2.1 v hv
 ·rcases Nat.lt_or_ge i l.length with hlt | hge
  ·have e1 : (l ++ m)[i] = l[i] := List.getElem_append_left hlt
   have hj' : j < l[i].cells.length := by rw [<- e1]; exact hj
   have hsz : l[i].cells.length = sz := h.2.1 _ (List.getElem_mem hlt)
   have hlt' : i * sz + j < vs.length := by rw [h.1]; exact idx_lt hlt (by omega)
   rw [List.getElem_append_left hlt']
   have := h.2.2.2 i hlt j hj' hlt'
   simpa only [e1] using this
  ·have e1 : (l ++ m)[i] = m[i - l.length]'(by simp at hi; omega) := List.getElem_append_right hge
   have hj' : j < (m[i - l.length]'(by simp at hi; omega)).cells.length := by rw [<- e1]; exact hj
   have hmul : i * sz = l.length * sz + (i - l.length) * sz := by rw [<- Nat.add_mul]; congr 1; omega
   have hge' : vs.length <= i * sz + j := by rw [h.1,hmul]; omega
   have hidx : i * sz + j - vs.length = (i - l.length) * sz + j := by rw [h.1,hmul]; omega
   have hlt' : (i - l.length) * sz + j < us.length := by
    have : i * sz + j < vs.length + us.length := by simpa using hij
    omega
   rw [List.getElem_append_right hge']
   have := k.2.2.2 (i - l.length) (by simp at hi; omega) j hj' hlt'
   simp only [hidx,e1]
   exact this
theorem FR.mono {sz : Nat} {l : List AV} {vs : List Value} (h : FR g lb sz l vs) (hg : g.sub g') (hl : ∀ d i b,lb d i = some b -> lb' d i = some b) : FR g' lb' sz l vs :=
 ⟨h.1,h.2.1,h.2.2.1,fun i hi j hj hij => (h.2.2.2 i hi j hj hij).mono hg hl⟩
theorem FR.nol {sz : Nat} {l : List AV} {vs : List Value} (hm : MemR g own LC mem w) (h : FR g lb sz l vs) : FR g noLB sz (l.map mem.nol) vs := by
 have hc : ∀ v : AV,(mem.nol v).cells = v.cells.map mem.nol := fun v => cells_nol v
 refine ⟨by simp [h.1],fun e he => ?_,h.2.2.1,fun i hi j hj hij => ?_⟩
 ·obtain ⟨e',he',rfl⟩ := List.mem_map.1 he
  rw [hc,List.length_map]; exact h.2.1 e' he'
 ·have hi' : i < l.length := by simpa using hi
  have hj' : j < l[i].cells.length := by simpa [hc] using hj
  have := mem_nol hm (h.2.2.2 i hi' j hj' hij)
  simpa [hc] using this
theorem VR.flat {c : Cap} {l : List AV} {x : Value} {sz : Nat} (h : VR g lb (.list c l) x) (hsz : ∀ e ∈ l,e.cells.length = sz) (hne : l ≠ []) :
  ∃ (b o cap : Nat) (vs : List Value),x = .slice (some ⟨b,o,none⟩) l.length cap /\ l.length <= cap /\ capOK g l.length b o cap c /\ FR g noLB sz l vs ∧
   ∀ q v,vs[q]? = some v -> g.im b (o + q) = some v := by
 cases h with
 | listNil => exact absurd rfl hne
 | listE => exact absurd rfl hne
 | list _ _ _ b o sz' n cap xs hn hcap hc hsz' him hv =>
  subst hn
  have hs : sz' = sz := by
   cases l with
   | nil => exact absurd rfl hne
   | cons e l => rw [<- hsz' e (by simp),hsz e (by simp)]
  subst hs
  have hpos : ∀ q,q < l.length * sz' -> 0 < sz' := fun q hq => by
   rcases Nat.eq_zero_or_pos sz' with h | h
   ·rw [h] at hq; simp at hq
   ·exact h
  have hdiv : ∀ q,q < l.length * sz' -> q / sz' < l.length /\ q % sz' < sz' /\ q / sz' * sz' + q % sz' = q := fun q hq =>
   ⟨Nat.div_lt_of_lt_mul (by rw [Nat.mul_comm]; exact hq),Nat.mod_lt _ (hpos q hq),by rw [Nat.mul_comm]; exact Nat.div_add_mod q sz'⟩
  refine ⟨b,o,cap,(List.range (l.length * sz')).map fun q => xs (q / sz') (q % sz'),rfl,hcap,hc,⟨by simp,hsz,fun v hv' => ?_,fun i hi j hj hij => ?_⟩,fun q v hq => ?_⟩
  ·obtain ⟨q,hq,rfl⟩ := List.mem_map.1 hv'
   obtain ⟨k1,k2,k3⟩ := hdiv q (List.mem_range.1 hq)
   exact (him _ k1 _ k2).2
  ·simp only [List.getElem_map,List.getElem_range]
   have hj' : j < sz' := by rw [<- hsz _ (List.getElem_mem hi)]; exact hj
   have h1 : (i * sz' + j) / sz' = i := by rw [Nat.mul_comm,Nat.mul_add_div (by omega),Nat.div_eq_of_lt hj']; rfl
   have h2 : (i * sz' + j) % sz' = j := by rw [Nat.mul_comm,Nat.mul_add_mod,Nat.mod_eq_of_lt hj']
   rw [h1,h2]
   exact hv i hi j hj
  ·have hlt : q < l.length * sz' := by
    have := (List.getElem?_eq_some_iff.1 hq).1
    simpa using this
   obtain ⟨k1,k2,k3⟩ := hdiv q hlt
   simp only [List.getElem?_map,List.getElem?_range hlt,Option.map_some,Option.some.injEq] at hq
   subst hq
   have := (him _ k1 _ k2).1
   rwa [k3] at this
theorem VR.ofFlat {c : Cap} {l : List AV} {sz b o n cap : Nat} {vs : List Value} (h : FR g noLB sz l vs) (hn : l.length = n) (hcap : n <= cap) (hc : capOK g n b o cap c)
  (him : ∀ q v,vs[q]? = some v -> g.im b (o + q) = some v) : VR g lb (.list c l) (.slice (some ⟨b,o,none⟩) n cap) := by
 subst hn
 have hlt : ∀ i,i < l.length -> ∀ j,j < sz -> i * sz + j < vs.length := fun i hi j hj => by rw [h.1]; exact idx_lt hi hj
 refine .list _ c l b o sz _ cap (fun i j => vs.getD (i * sz + j) Go.undef) rfl hcap hc h.2.1 (fun i hi j hj => ?_) (fun i hi j hj => ?_)
 ·have hl := hlt i hi j hj
  refine ⟨?_,?_⟩
  ·rw [List.getD_eq_getElem?_getD,List.getElem?_eq_getElem hl]
   exact him _ _ (List.getElem?_eq_getElem hl)
  ·rw [List.getD_eq_getElem?_getD,List.getElem?_eq_getElem hl]
   exact h.2.2.1 _ (List.getElem_mem hl)
 ·have hj' : j < sz := by rw [<- h.2.1 _ (List.getElem_mem hi)]; exact hj
  have hl := hlt i hi j hj'
  rw [List.getD_eq_getElem?_getD,List.getElem?_eq_getElem hl]
  exact h.2.2.2 i hi j hj hl
theorem FR.one {v : AV} {x : Value} {sz : Nat} (h : VR g lb v x) (hs : v.cells.length = sz) (h0 : 0 < sz) : FR g lb sz [v] x.cells.toList := by
 obtain ⟨h1,h2,h3⟩ := h.cells (by intro hn; rw [hn] at hs; simp at hs; omega)
 refine ⟨by simp [h1,hs],by simp [hs],fun u hu => ?_,fun i hi j hj hij => ?_⟩
 ·obtain ⟨i,hi,rfl⟩ := List.mem_iff_getElem.1 hu
  simpa using h3 i (by simpa using hi)
 ·have : i = 0 := by simpa using hi
  subst this
  have := h2 j (by simpa using hj) (by simp at hij; omega)
  simpa using this
def Gh.row (g : Gh) (b : Nat) (vs : List Value) : Gh := { g with im := fun b' o => if b' = b then vs[o]? else g.im b' o }
theorem row_sub {b : Nat} {vs : List Value} (h : ∀ o,g.im b o = none) : g.sub (g.row b vs) :=
 ⟨fun b' o x hx => (by
  simp only [Gh.row]; rw [if_neg]
  ·exact hx
  ·rintro rfl; rw [h] at hx; cases hx),fun _ _ h => h,fun _ _ _ h => h⟩
theorem row_spec (hm : MemR g own LC mem w) (hl : LocR g lb own loc w) (ho : OwnR base own w) {l : List AV} {a : Array Value} {sz : Nat} {e : TypeId} (hf : FR g noLB sz l a.toList) :
  Post base LC g lb own loc w (.list .full l) none mem (.slice (some ⟨w.heap.size,0,none⟩) l.length l.length) (w.alloc (.cells a e)) := by
 have hn := im_new hm
 have hsub : g.sub (g.row w.heap.size a.toList) := row_sub hn
 have hst := Steps'.alloc g own w (.cells a e) none
 have hkeep : ∀ b o,own b = some o -> ∀ q,(g.row w.heap.size a.toList).im b q = g.im b q := fun b o hb q => by simp [Gh.row,own_lt ho hb]
 have hm' := hm.alloc ho (.cells a e) none
 refine ⟨g.row w.heap.size a.toList,lb,_,⟨hsub,hst.size,hst.os,hst.tape,hst.output,hst.keep,hst.unown,fun b hb _ q => by simp only [Gh.row]; rw [if_neg (by omega)]⟩,
  fun _ _ _ h => h,?_,?_,?_,ho.alloc _ _⟩
 ·refine VR.ofFlat (hf.mono hsub (fun _ _ _ h => by cases h)) rfl (Nat.le_refl _) rfl (fun q v hq => ?_)
  simp only [Gh.row,Nat.zero_add,if_true]; exact hq
 ·refine hm'.keep hsub (fun _ h => h) (fun _ _ h => h) (fun id b hb => ⟨rfl,rfl,?_⟩) (fun b o x hx => ?_)
  ·have hb' : own b = some (.m id) := by
    simp only [ownNew] at hb; split at hb
    ·cases hb
    ·exact hb
   exact hkeep b _ hb'
  ·simp only [Gh.row] at hx
   split at hx
   ·rename_i hbe; subst hbe
    simp only [World.cell?,heap_alloc_at]
    simpa using hx
   ·exact hm'.im b o x hx
 ·refine (hl.alloc ho (.cells a e) none).keep hsub (fun d b hb => ⟨rfl,rfl,?_⟩)
  have hb' : own b = some (.l d) := by
   simp only [ownNew] at hb; split at hb
   ·cases hb
   ·exact hb
  exact hkeep b _ hb'
end
end Go.Abs
