/- A text of this proof. -/
import Derived.Test.YtiigojkfojnedaaGreatDoorPN
import Derived.Laws.MakeOwn
set_option linter.unusedVariables false
set_option linter.unusedSimpArgs false
namespace Go.Abs
section
variable {P : Program} {base : Nat} {LC : LCR} {g g' : Gh} {lb lb' : LB} {own own' : OW} {loc : Nat -> Option (Nat × Blk)} {mem : Mem} {w w' : World}
variable {esc : Nat -> Bool} {callv : CallV} {ev : Opd -> AV} {a : Act} {o : Oper} {ao : AO} {v : AV} {u : Upd} {m' : Mem}
theorem rep_length (n : Nat) (z : List AV) : (rep n z).length = n * z.length := by
 induction n with
 | zero => simp [rep]
 | succ n ih => simp [rep,ih,Nat.add_mul,Nat.add_comm]
theorem rep_get (z : List AV) : ∀ (n k : Nat),k < n * z.length -> (rep n z)[k]? = z[k % z.length]? := by
 intro n
 induction n with
 | zero => intro k h; simp at h
 | succ n ih =>
  intro k h
  rw [rep]
  rcases Nat.lt_or_ge k z.length with hlt | hge
  ·rw [List.getElem?_append_left hlt,Nat.mod_eq_of_lt hlt]
  ·rw [Nat.add_mul,Nat.one_mul] at h
   rw [List.getElem?_append_right hge,ih (k - z.length) (by omega),Nat.mod_eq_sub_mod hge]
theorem FR.pw {sz : Nat} : ∀ {l : List AV} {vs : List Value},FR g lb sz l vs -> PW (VR g lb) (l.flatMap AV.cells) vs := by
 intro l
 induction l with
 | nil =>
  intro vs h
  have : vs = [] := List.eq_nil_of_length_eq_zero (by have := h.1; simpa using this)
  subst this; exact PW.nil
 | cons e l ih =>
  intro vs h
  obtain ⟨h1,h2,h3,h4⟩ := h
  have hes : e.cells.length = sz := h2 e (by simp)
  simp only [List.length_cons,Nat.add_mul,Nat.one_mul] at h1
  have hrest : FR g lb sz l (vs.drop sz) := by
   refine ⟨by simp; omega,fun e he => h2 e (List.mem_cons_of_mem _ he),fun v hv => h3 v (List.mem_of_mem_drop hv),fun i hi j hj hj' => ?_⟩
   have := h4 (i + 1) (by simpa using hi) j (by simpa using hj) (by rw [Nat.add_mul]; simp at hj'; omega)
   simp only [List.getElem_cons_succ,List.getElem_drop] at this ⊢
   have e1 : (i + 1) * sz + j = sz + (i * sz + j) := by rw [Nat.add_mul]; omega
   simpa only [e1] using this
  have hfirst : PW (VR g lb) e.cells (vs.take sz) := by
   refine ⟨by simp; omega,fun j hj hj' => ?_⟩
   have := h4 0 (by simp) j (by simpa using hj) (by simp at hj'; omega)
   simpa using this
  have := hfirst.append (ih hrest)
  rw [List.take_append_drop] at this
  simpa [List.flatMap_cons] using this
theorem src_spec (hm : MemR g own LC mem w) {y : AV} {yv : Value} (hy : VR g lb y yv) {sz k : Nat} {cs : List AV} (hc : cellsOf mem sz y = some (k,cs)) :
  cs.length = k * sz /\ (Builtin.lenOf yv).run P w = .ok k w /\ ∀ j,j <= k -> ∃ vs : List Value,(Builtin.firstCells sz j yv).run P w = .ok vs.toArray w /\ PW (VR g lb) (cs.take (j * sz)) vs /\ ∀ v ∈ vs,v.oneCell' = true := by
 have key : ∀ (b o cap : Nat) (full : List Value),yv = .slice (some ⟨b,o,none⟩) k cap -> cs.length = k * sz -> PW (VR g lb) cs full -> (∀ v ∈ full,v.oneCell' = true) →
   (∀ j v,full[j]? = some v -> w.cell? ⟨b,o + j,none⟩ = some v) -> cs.length = k * sz /\ (Builtin.lenOf yv).run P w = .ok k w ∧
   ∀ j,j <= k -> ∃ vs : List Value,(Builtin.firstCells sz j yv).run P w = .ok vs.toArray w /\ PW (VR g lb) (cs.take (j * sz)) vs /\ ∀ v ∈ vs,v.oneCell' = true := by
  rintro b o cap full rfl hlen hpw h1 hcell
  refine ⟨hlen,rfl,fun j hj => ⟨full.take (j * sz),?_,hpw.take _,fun v hv => h1 v (List.mem_of_mem_take hv)⟩⟩
  have hjl : j * sz <= full.length := by rw [<- hpw.1,hlen]; exact Nat.mul_le_mul_right _ hj
  have hload := run_loadCells_list (P := P) w ⟨b,o,none⟩ (full.take (j * sz)) (fun q v hv => by
   rw [Addr.add_mid]
   rw [List.getElem?_take] at hv
   split at hv
   ·exact hcell q v hv
   ·cases hv)
  have hjl2 : (full.take (j * sz)).length = j * sz := by simp; omega
  rw [hjl2] at hload
  simp only [Builtin.firstCells,hload]
 cases y with
 | list c l =>
  simp only [cellsOf] at hc
  split at hc
  ·rename_i hall
   simp only [Option.some.injEq,Prod.mk.injEq] at hc
   obtain ⟨rfl,rfl⟩ := hc
   simp only [List.all_eq_true,decide_eq_true_eq] at hall
   by_cases hle : l = []
   ·subst hle
    have hyv : (yv = .slice none 0 0) \/ (∃ ad cap,yv = .slice (some ad) 0 cap) \/ ∃ b o cap,yv = .slice (some ⟨b,o,none⟩) 0 cap := by
     cases hy with
     | listNil => exact .inl rfl
     | listE _ _ ad cap hc => exact .inr (.inl ⟨_,_,rfl⟩)
     | list _ _ _ b o sz' n cap xs hn => simp at hn; subst hn; exact .inr (.inr ⟨_,_,_,rfl⟩)
    rcases hyv with rfl | ⟨ad,cap,rfl⟩ | ⟨b,o,cap,rfl⟩
    ·refine ⟨by simp,rfl,fun j hj => ⟨[],rfl,by simp [PW],by simp⟩⟩
    ·refine ⟨by simp,rfl,fun j hj => ⟨[],?_,by simp [PW],by simp⟩⟩
     have : j = 0 := by simp at hj; exact hj
     subst this
     simp [Builtin.firstCells,loadCells,loadCellsFrom]
    ·exact key b o cap [] rfl (by simp) PW.nil (by simp) (by simp)
   ·obtain ⟨b,o,cap,vs,rfl,-,-,hfr,him⟩ := hy.flat hall hle
    have hp := hfr.pw
    refine key b o cap vs rfl ?_ (hp.mono fun _ _ h => h.mono g.sub_refl fun _ _ _ h => by cases h) hfr.2.2.1 (fun j v hv => hm.im _ _ _ (him j v hv))
    rw [hp.1,hfr.1]
  ·cases hc
 | sl kd id off n cap =>
  simp only [cellsOf] at hc
  split at hc
  ·rename_i l hb
   split at hc
   ·rename_i hle
    simp only [Option.some.injEq,Prod.mk.injEq] at hc
    obtain ⟨rfl,rfl⟩ := hc
    cases hy with
    | sl _ _ _ _ _ _ b hcp hb' =>
    obtain ⟨b2,k1,k2⟩ := hm.blk id _ hb
    rw [hb'] at k1; cases k1
    obtain ⟨aa,e,k3,k4,k5⟩ := k2.pw
    refine key b off cap ((aa.toList.drop off).take (n * sz)) rfl (by simp; omega) (((k4.drop off).take (n * sz)).mono fun _ _ h => h.mono g.sub_refl fun _ _ _ h => by cases h) (fun v hv => k5 v (List.mem_of_mem_drop (List.mem_of_mem_take hv))) (fun j v hv => ?_)
    rw [List.getElem?_take] at hv
    split at hv
    ·rw [List.getElem?_drop] at hv
     simpa [World.cell?,k3] using hv
    ·cases hv
   ·cases hc
  ·cases hc
 | _ => simp [cellsOf] at hc
theorem op_mkslc (hev : EvOK g lb ev a) (hm : MemR g own LC mem w) (hl : LocR g lb own loc w) (ho : OwnR base own w) {t : TypeId} {x y : Operand} (hop : o.op = .makeSlice t x y)
  (hc : copO P esc o = some ao) (hr : aop ev loc mem callv o.dst ao = some (v,u,m')) : OpOK P base LC g lb own loc w a o v u m' := by
 simp only [copO,hop] at hc
 split at hc
 ·rename_i e x' y' hu hx hy
  split at hc
  ·rename_i z i hz hi
   cases hc
   simp only [aop] at hr
   split at hr
   ·rename_i kn n kc c e1 e2
    split at hr
    ·rename_i hb
     simp only [Option.some.injEq,Prod.mk.injEq] at hr
     obtain ⟨rfl,rfl,rfl⟩ := hr
     have k1 := hev _ _ hx
     have k2 := hev _ _ hy
     rw [e1] at k1; rw [e2] at k2
     obtain ⟨zv,i',hi',hz1,hz2,hzs,hzl,hpos,hzp,hz1c⟩ := tyZero_spec (P := P) (g := g) (lb := lb) (w := w) hz
     rw [hi] at hi'; cases hi'
     obtain ⟨b0,b1,b2,b3⟩ := hb
     have hrun := run_make (P := P) w t e i zv hu hi hz1 kn kc n c b0 b1 b2 b3
     have hsz : (madeCells zv.cells (c.toNat * i.size)).size = (rep c.toNat z).length := by rw [size_madeCells,rep_length,hzl]
     have hmade : ∀ k (h : k < (rep c.toNat z).length) (h' : k < (madeCells zv.cells (c.toNat * i.size)).size),
       (rep c.toNat z)[k] = z[k % z.length]'(Nat.mod_lt _ (by omega)) /\ (madeCells zv.cells (c.toNat * i.size))[k] = zv.cells[k % zv.cells.size]'(Nat.mod_lt _ (by omega)) := by
      intro k h h'
      have hk : k < c.toNat * z.length := by rw [rep_length] at h; exact h
      refine ⟨?_,?_⟩
      ·have := rep_get z c.toNat k hk
       rw [List.getElem?_eq_getElem h,List.getElem?_eq_getElem (Nat.mod_lt _ (by omega))] at this
       exact Option.some.inj this
      ·have hm : k % zv.cells.size < zv.cells.size := Nat.mod_lt _ (by omega)
       simp [madeCells,hm]
     have hpost := newVar_spec (LC := LC) (e := e) (glob := true) (dst := none) hm hl ho hsz (fun k h h' => by
       obtain ⟨q1,q2⟩ := hmade k h h'
       rw [q1,q2]
       have := hzp.2 (k % z.length) (Nat.mod_lt _ (by omega)) (by simp; rw [hzs,<- hzl]; exact Nat.mod_lt _ (by omega))
       have he : k % zv.cells.size = k % z.length := by rw [hzs,hzl]
       simpa only [he,Array.getElem_toList] using this) (fun k h' => by
       obtain ⟨-,q2⟩ := hmade k (by omega) h'
       rw [q2]
       exact hz1c _ (by simp)) (rfl : newVar loc mem true none (rep c.toNat z) = some (.gptr mem.blks.length 0,none,_))
     refine ⟨.slice (some ⟨w.heap.size,0,none⟩) n.toNat c.toNat,w.alloc (.cells (madeCells zv.cells (c.toNat * i.size)) e),.inl ?_,?_⟩
     ·exact (by
       simp only [execOp,hop,vr_int k1,vr_int k2,Sem.run_bind,hrun,Result.andThen_ok]; rfl)
     ·obtain ⟨g',lb',own',p1,p2,p3,p4,p5,p6⟩ := hpost
      refine ⟨g',lb',own',p1,p2,?_,p4,p5,p6⟩
      cases p3 with
      | gptr _ _ _ b hb => exact .sl _ _ _ _ _ _ _ (by omega) hb
    ·cases hr
   ·cases hr
  ·cases hc
 ·cases hc
theorem op_cpy (hev : EvOK g lb ev a) (hm : MemR g own LC mem w) (hl : LocR g lb own loc w) (ho : OwnR base own w) {c : Call} (hop : o.op = .call c) (hb : c.callee = .builtin .copy)
  (hc : copO P esc o = some ao) (hr : aop ev loc mem callv o.dst ao = some (v,u,m')) : OpOK P base LC g lb own loc w a o v u m' := by
 simp only [copO,hop,hb] at hc
 split at hc
 ·rename_i x y t ts hargs htys
  split at hc
  ·rename_i e x' y' hu hx hy
   simp only [Option.map_eq_some_iff] at hc
   obtain ⟨sz,hsz,rfl⟩ := hc
   have hargs' : (c.args.map a.eval) = #[a.eval x,a.eval y] := by
    have : (c.args.map a.eval).toList = [a.eval x,a.eval y] := by simp [hargs]
    rw [<- Array.toArray_toList (xs := c.args.map a.eval),this]
   have htys' : c.argTypes[0]? = some t := by rw [<- Array.getElem?_toList,htys]; rfl
   simp only [aop] at hr
   split at hr
   ·rename_i id off n cp e1
    split at hr
    ·rename_i k cs hcs
     simp only [Option.map_eq_some_iff,Prod.mk.injEq,Prod.exists] at hr
     obtain ⟨u1,m1,hw,rfl,rfl,rfl⟩ := hr
     have k1 := hev _ _ hx
     rw [e1] at k1
     obtain ⟨b,hxe,hid,hcap⟩ : ∃ b,a.eval x = .slice (some ⟨b,off,none⟩) n cp /\ g.mb id = some b /\ n <= cp := by
      generalize a.eval x = xv at k1
      cases k1 with
      | sl _ _ _ _ _ _ b hcp hb' => exact ⟨b,rfl,hb',hcp⟩
     obtain ⟨s1,s2,-⟩ := tySz_spec (P := P) (w := w) hsz
     obtain ⟨q1,q2,q3⟩ := src_spec (P := P) hm (hev _ _ hy) hcs
     obtain ⟨vs,q4,q5,q6⟩ := q3 (Nat.min k n) (Nat.min_le_left _ _)
     have hu1 : u1 = none := by
      simp only [wr] at hw
      split at hw
      ·split at hw
       ·cases hw; rfl
       ·cases hw
      ·cases hw
     subst hu1
     have hw' : wr loc mem (.gptr id off) (cs.take (Nat.min k n * sz)) = some (none,m1) := hw
     obtain ⟨b2,off2,aa,ee,w1,w2,w3,w4⟩ := wr_spec hm hl ho (.gptr lb id off b hid) q5 q6 hw'
     cases w1
     have hst := run_storeCells_at P b off ee vs 0 aa w w2 (by simpa using w3) q6
     simp only [Nat.add_zero] at hst
     refine ⟨.int .i64 (Nat.min k n : Nat),w.setRow b (arr aa off vs),.inl ?_,?_⟩
     ·simp only [execOp,hop,resolve,hb,hargs',Sem.run_bind,Sem.run_pure,Result.andThen_ok,invoke,builtin,Builtin.copy_,htys',hxe]
      have hst' : (storeCells ⟨b,off,none⟩ vs).run P w = .ok () (w.setRow b (arr aa off vs)) := hst
      have hl0 : (Builtin.lenOf (.slice (some ⟨b,off,none⟩) n cp)).run P w = .ok n w := rfl
      simp [run_underlying hu,q2,s1,q4,hst',goInt]
     ·obtain ⟨g',lb',own',p1,p2,p3,p4,p5,p6⟩ := w4
      exact ⟨g',lb',own',p1,p2,.int _ _ _,p4,p5,p6⟩
    ·cases hr
   ·cases hr
  ·cases hc
 ·cases hc
theorem op_clr (hev : EvOK g lb ev a) (hm : MemR g own LC mem w) (hl : LocR g lb own loc w) (ho : OwnR base own w) {c : Call} (hop : o.op = .call c) (hb : c.callee = .builtin .clear)
  (hc : copO P esc o = some ao) (hr : aop ev loc mem callv o.dst ao = some (v,u,m')) : OpOK P base LC g lb own loc w a o v u m' := by
 simp only [copO,hop,hb] at hc
 split at hc
 ·rename_i x t hargs htys
  split at hc
  ·rename_i e x' hu hx
   simp only [Option.map_eq_some_iff] at hc
   obtain ⟨z,hz,rfl⟩ := hc
   have hargs' : (c.args.map a.eval) = #[a.eval x] := by
    have : (c.args.map a.eval).toList = [a.eval x] := by simp [hargs]
    rw [<- Array.toArray_toList (xs := c.args.map a.eval),this]
   have htys' : c.argTypes[0]? = some t := by rw [<- Array.getElem?_toList,htys]; rfl
   have k1 := hev _ _ hx
   simp only [aop] at hr
   split at hr
   ·rename_i cc e1
    simp only [Option.some.injEq,Prod.mk.injEq] at hr
    obtain ⟨rfl,rfl,rfl⟩ := hr
    rw [e1] at k1
    have hxe : ∃ A cap,a.eval x = .slice A 0 cap := by
     generalize a.eval x = xv at k1
     cases k1 with
     | listNil => exact ⟨_,_,rfl⟩
     | listE => exact ⟨_,_,rfl⟩
     | list _ _ _ b o sz n cap xs hn => simp at hn; subst hn; exact ⟨_,_,rfl⟩
    obtain ⟨A,cap,hxe⟩ := hxe
    refine .pure hm hl ho (x := .tuple #[]) ?_ (.undef _)
    simp only [execOp,hop,resolve,hb,hargs',Sem.run_bind,Sem.run_pure,Result.andThen_ok,invoke,builtin,Builtin.clear_,htys',hxe]
    cases A <;> simp [run_underlying hu]
   ·rename_i id off n cp e1
    rw [e1] at k1
    obtain ⟨b,hxe,hid,hcap⟩ : ∃ b,a.eval x = .slice (some ⟨b,off,none⟩) n cp /\ g.mb id = some b /\ n <= cp := by
     generalize a.eval x = xv at k1
     cases k1 with
     | sl _ _ _ _ _ _ b hcp hb' => exact ⟨b,rfl,hb',hcp⟩
    split at hr
    ·rename_i hn
     simp only [Option.some.injEq,Prod.mk.injEq] at hr
     obtain ⟨rfl,rfl,rfl⟩ := hr
     subst hn
     refine .pure hm hl ho (x := .tuple #[]) ?_ (.undef _)
     simp only [execOp,hop,resolve,hb,hargs',Sem.run_bind,Sem.run_pure,Result.andThen_ok,invoke,builtin,Builtin.clear_,htys',hxe]
     simp [run_underlying hu]
    rename_i hn
    simp only [Option.map_eq_some_iff,Prod.mk.injEq,Prod.exists] at hr
    obtain ⟨u1,m1,hw,rfl,rfl,rfl⟩ := hr
    have hu1 : u1 = none := by
     simp only [wr] at hw
     split at hw
     ·split at hw
      ·cases hw; rfl
      ·cases hw
     ·cases hw
    subst hu1
    have hw' : wr loc mem (.gptr id off) (rep n z) = some (none,m1) := hw
    obtain ⟨zv,i,hi,hz1,hz2,hzs,hzl,hpos,hzp,hz1c⟩ := tyZero_spec (P := P) (g := g) (lb := lb) (w := w) hz
    have hsz : (Builtin.zeroCells zv.cells n).size = (rep n z).length := by rw [size_zeroCells,rep_length,hzl,hzs]
    have hmade : ∀ k (h : k < (rep n z).length) (h' : k < (Builtin.zeroCells zv.cells n).size),
      (rep n z)[k] = z[k % z.length]'(Nat.mod_lt _ (by omega)) /\ (Builtin.zeroCells zv.cells n)[k] = zv.cells[k % zv.cells.size]'(Nat.mod_lt _ (by omega)) := by
     intro k h h'
     have hk : k < n * z.length := by rw [rep_length] at h; exact h
     refine ⟨?_,?_⟩
     ·have := rep_get z n k hk
      rw [List.getElem?_eq_getElem h,List.getElem?_eq_getElem (Nat.mod_lt _ (by omega))] at this
      exact Option.some.inj this
     ·have hm : k % zv.cells.size < zv.cells.size := Nat.mod_lt _ (by omega)
      simp [Builtin.zeroCells,hm]
    have hpw : PW (VR g lb) (rep n z) (Builtin.zeroCells zv.cells n).toList := by
     refine ⟨by simp [hsz],fun k h h' => ?_⟩
     obtain ⟨q1,q2⟩ := hmade k h (by simpa using h')
     have e3 : (Builtin.zeroCells zv.cells n).toList[k] = (Builtin.zeroCells zv.cells n)[k]'(by simpa using h') := Array.getElem_toList _
     rw [q1,e3,q2]
     have := hzp.2 (k % z.length) (Nat.mod_lt _ (by omega)) (by simp; rw [hzs,<- hzl]; exact Nat.mod_lt _ (by omega))
     have he : k % zv.cells.size = k % z.length := by rw [hzs,hzl]
     simpa only [he,Array.getElem_toList] using this
    have h1 : ∀ v ∈ (Builtin.zeroCells zv.cells n).toList,v.oneCell' = true := by
     intro v hv
     obtain ⟨k,hk,rfl⟩ := List.mem_iff_getElem.1 hv
     obtain ⟨-,q2⟩ := hmade k (by simpa [hsz] using hk) (by simpa using hk)
     have e3 : (Builtin.zeroCells zv.cells n).toList[k] = (Builtin.zeroCells zv.cells n)[k]'(by simpa using hk) := Array.getElem_toList _
     rw [e3,q2]
     exact hz1c _ (by simp)
    obtain ⟨b2,off2,aa,ee,w1,w2,w3,w4⟩ := wr_spec hm hl ho (.gptr lb id off b hid) hpw h1 hw'
    cases w1
    have hst := run_storeCells_at P b off ee _ 0 aa w w2 (by simpa using w3) h1
    simp only [Nat.add_zero] at hst
    refine ⟨.tuple #[],w.setRow b (arr aa off (Builtin.zeroCells zv.cells n).toList),.inl ?_,?_⟩
    ·simp only [execOp,hop,resolve,hb,hargs',Sem.run_bind,Sem.run_pure,Result.andThen_ok,invoke,builtin,Builtin.clear_,htys',hxe]
     obtain ⟨n',rfl⟩ : ∃ n',n = n' + 1 := ⟨n - 1,by omega⟩
     simp [run_underlying hu,hz2,hst,arr]
    ·obtain ⟨g',lb',own',p1,p2,p3,p4,p5,p6⟩ := w4
     exact ⟨g',lb',own',p1,p2,.undef _,p4,p5,p6⟩
   ·cases hr
  ·cases hc
 ·cases hc
end
end Go.Abs
namespace Go.Abs
section
variable {P : Program} {base : Nat} {LC : LCR} {g : Gh} {lb : LB} {own : OW} {loc : Nat -> Option (Nat × Blk)} {mem : Mem} {w : World} {esc : Nat -> Bool} {callv : CallV}
variable {ev : Opd -> AV} {a : Act} {o : Oper} {ao : AO} {v : AV} {u : Upd} {m' : Mem}
def cellEq : KK -> AV -> AV -> Option Bool
 | .int,.int k a,.int k' b => if k = k' then some (decide (a = b)) else none
 | .str,.str a,.str b => some (decide (a = b))
 | .bool,.bool a,.bool b => some (a == b)
 | _,_,_ => none
theorem eqCells_cons {k : KK} {ks : List KK} {l m : List AV} {r : Bool} (h : eqCells (k :: ks) l m = some r) :
  ∃ x y l' m' r1 r2,l = x :: l' /\ m = y :: m' /\ cellEq k x y = some r1 /\ eqCells ks l' m' = some r2 /\ r = (r1 && r2) := by
 cases k <;> cases l with
 | nil => simp [eqCells] at h
 | cons x l =>
  cases m with
  | nil => cases x <;> simp [eqCells] at h
  | cons y m =>
   cases x <;> cases y <;> simp only [eqCells] at h <;> first | (cases h; done) | skip
   all_goals first
    | (
      split at h
      ·rename_i hk
       simp only [Option.map_eq_some_iff] at h
       obtain ⟨r2,h2,rfl⟩ := h
       exact ⟨_,_,_,_,_,r2,rfl,rfl,by simp only [cellEq,hk,if_true],h2,rfl⟩
      ·cases h)
    | (
      simp only [Option.map_eq_some_iff] at h
      obtain ⟨r2,h2,rfl⟩ := h
      exact ⟨_,_,_,_,_,r2,rfl,rfl,rfl,h2,rfl⟩)
theorem run_cellEq {k : KK} {t : TypeId} (hk : keyKind P t = some k) {x y : AV} {xv yv : Value} (hx : VR g lb x xv) (hy : VR g lb y yv) {r : Bool} (h : cellEq k x y = some r) (d : Nat) :
  (Op.equalIn (d + 1) t xv yv).run P w = .ok r w := by
 unfold keyKind at hk
 split at hk
 ·rename_i q hu; cases hk
  cases x <;> cases y <;> simp only [cellEq] at h <;> first | (cases h; done) | skip
  split at h
  ·rename_i hkk; subst hkk; cases h
   cases hx; cases hy
   rw [run_equalIn_int w d t _ _ _ _ hu]; rfl
  ·cases h
 ·rename_i hu; cases hk
  cases x <;> cases y <;> simp only [cellEq] at h <;> first | (cases h; done) | skip
  cases h
  cases hx; cases hy
  rename_i b1 h1 b2 h2
  rw [run_equalIn_string w d t _ _ hu,str_eq h1 h2]
 ·rename_i hu; cases hk
  cases x <;> cases y <;> simp only [cellEq] at h <;> first | (cases h; done) | skip
  cases h
  cases hx; cases hy
  exact run_equalIn_bool d hu _ _
 ·cases hk
theorem keyKind_ag {t : TypeId} {k : KK} (h : keyKind P t = some k) : (isAgg t).run P w = .ok false w := by
 unfold keyKind at h
 split at h
 ·rename_i hu; simp [isAgg,run_underlying hu]
 ·rename_i hu; simp [isAgg,run_underlying hu]
 ·rename_i hu; simp [isAgg,run_underlying hu]
 ·cases h
theorem run_part1 {t : TypeId} {k : KK} (h : keyKind P t = some k) {cs : Array Value} {off : Nat} (ho : off < cs.size) : (part t cs off).run P w = .ok cs[off] w := by
 simp [part,keyKind_ag h,Array.getElem?_eq_getElem ho]
theorem eqFields_spec (d : Nat) {xs ys : Array Value} : ∀ (fs : List Field) (k : Nat) (ks : List KK) (l m : List AV) (r : Bool),flatFields P k fs = some ks -> eqCells ks l m = some r →
  PW (VR g lb) l (xs.toList.drop k) -> PW (VR g lb) m (ys.toList.drop k) -> (Op.eqFields (d + 1) xs ys fs).run P w = .ok r w
 | [],k,ks,l,m,r,hf,he,_,_ => by
  cases hf
  cases l <;> cases m <;> simp [eqCells] at he
  subst he; rfl
 | f :: fs,k,ks,l,m,r,hf,he,hx,hy => by
  simp only [flatFields] at hf
  split at hf
  ·rename_i kk ks' h1 h2 h3
   split at hf
   ·rename_i hc
    obtain ⟨hname,rfl⟩ := hc
    cases hf
    obtain ⟨x,y,l',m',r1,r2,rfl,rfl,e1,e2,rfl⟩ := eqCells_cons he
    have hkx : f.offset < xs.size := by have := hx.1; simp at this; omega
    have hky : f.offset < ys.size := by have := hy.1; simp at this; omega
    have vx := hx.2 0 (by simp) (by simp; omega)
    have vy := hy.2 0 (by simp) (by simp; omega)
    simp only [List.getElem_cons_zero,List.getElem_drop,Nat.add_zero,Array.getElem_toList] at vx vy
    have hx' : PW (VR g lb) l' (xs.toList.drop (f.offset + 1)) := by
     have := hx.drop 1
     simpa [List.drop_drop] using this
    have hy' : PW (VR g lb) m' (ys.toList.drop (f.offset + 1)) := by
     have := hy.drop 1
     simpa [List.drop_drop] using this
    have ih := eqFields_spec d fs (f.offset + 1) ks' l' m' r2 h3 e2 hx' hy'
    have hce := run_cellEq (P := P) (w := w) h1 vx vy e1 d
    simp only [Op.eqFields]
    rw [if_pos hname]
    simp only [Sem.run_bind,run_part1 h1 hkx,run_part1 h1 hky,Result.andThen_ok,hce]
    cases r1
    ·rfl
    ·simp only [Bool.not_true,Bool.false_eq_true,if_false,Bool.true_and]; exact ih
   ·cases hf
  ·cases hf
theorem arr_eq (d : Nat) {e : TypeId} {k : KK} (hk : keyKind P e = some k) {xs ys : Array Value} : ∀ (n i : Nat) (l m : List AV) (r : Bool),eqCells (List.replicate n k) l m = some r →
  PW (VR g lb) l ((xs.toList.drop i).take n) -> PW (VR g lb) m ((ys.toList.drop i).take n) →
  (forIn (m := Sem) (List.range' i n) ((none,()) : Option Bool × Unit) fun j _ => do
    if !(<- Op.equalIn (d + 1) e (<- part e xs (j * 1)) (<- part e ys (j * 1))) then pure (ForInStep.done (some false,())) else pure (ForInStep.yield (none,()))).run P w =
   .ok (if r then (none,()) else (some false,())) w
 | 0,i,l,m,r,he,_,_ => by
  cases l <;> cases m <;> simp [eqCells] at he
  subst he; rfl
 | n + 1,i,l,m,r,he,hx,hy => by
  rw [List.replicate_succ] at he
  obtain ⟨x,y,l',m',r1,r2,rfl,rfl,e1,e2,rfl⟩ := eqCells_cons he
  have hkx : i < xs.size := by have := hx.1; simp at this; omega
  have hky : i < ys.size := by have := hy.1; simp at this; omega
  have vx := hx.2 0 (by simp) (by simp; omega)
  have vy := hy.2 0 (by simp) (by simp; omega)
  simp only [List.getElem_cons_zero,List.getElem_take,List.getElem_drop,Nat.add_zero,Array.getElem_toList] at vx vy
  have hx' : PW (VR g lb) l' ((xs.toList.drop (i + 1)).take n) := by
   have := hx.drop 1
   simpa [List.drop_take,List.drop_drop] using this
  have hy' : PW (VR g lb) m' ((ys.toList.drop (i + 1)).take n) := by
   have := hy.drop 1
   simpa [List.drop_take,List.drop_drop] using this
  have ih := arr_eq d hk n (i + 1) l' m' r2 e2 hx' hy'
  have hce := run_cellEq (P := P) (w := w) hk vx vy e1 d
  rw [List.range'_succ]
  simp only [List.forIn_cons,Sem.run_bind,Nat.mul_one,run_part1 hk hkx,run_part1 hk hky,Result.andThen_ok,hce]
  cases r1
  ·rfl
  ·simp only [Bool.not_true,Bool.false_eq_true,if_false,Bool.true_and,Sem.run_pure,Result.andThen_ok]
   simp only [Nat.mul_one] at ih
   exact ih
theorem flat_spec {t : TypeId} {ks : List KK} (hf : flatTy P t = some ks) {l m : List AV} {xs ys : Array Value} {r : Bool} (hx : VR g lb (.agg l) (.agg xs)) (hy : VR g lb (.agg m) (.agg ys)) (he : eqCells ks l m = some r) :
  P.eqGuardType P.depth t = false /\ (Op.equalIn 10000 t (.agg xs) (.agg ys)).run P w = .ok r w := by
 unfold flatTy at hf
 split at hf
 ·cases hf
 ·rename_i hgd
  refine ⟨by simpa using hgd,?_⟩
  have px := (pw_agg hx).1
  have py := (pw_agg hy).1
  split at hf
  ·rename_i fields hu
   split at hf
   ·cases hf
   ·rename_i hst
    have hfo : P.fieldsOf t = fields := by simp [Program.fieldsOf,hu]
    rw [show (10000 : Nat) = 9998 + 1 + 1 from rfl,run_equalIn_struct w (9998 + 1) t xs ys (by rw [hfo]; exact hu) (by simpa using hst),hfo]
    exact eqFields_spec 9998 fields.toList 0 ks l m r hf he (by simpa using px) (by simpa using py)
  ·rename_i n e hu
   split at hf
   ·rename_i kk hk hs
    cases hf
    obtain ⟨s1,-,-⟩ := tySz_spec (P := P) (w := w) hs
    have hlx : l.length = n /\ m.length = n := by
     have : ∀ (n : Nat) (l m : List AV) (r : Bool),eqCells (List.replicate n kk) l m = some r -> l.length = n /\ m.length = n := by
      intro n
      induction n with
      | zero => intro l m r h; cases l <;> cases m <;> simp [eqCells] at h; exact ⟨rfl,rfl⟩
      | succ n ih =>
       intro l m r h
       rw [List.replicate_succ] at h
       obtain ⟨_,_,l',m',_,_,rfl,rfl,_,h2,_⟩ := eqCells_cons h
       have := ih _ _ _ h2
       exact ⟨by simp [this.1],by simp [this.2]⟩
     exact this n l m r he
    have ha := arr_eq (P := P) (w := w) (xs := xs) (ys := ys) 9998 hk n 0 l m r he (by
     have := px.1
     rw [List.drop_zero,List.take_of_length_le (by omega)]; exact px) (by
     have := py.1
     rw [List.drop_zero,List.take_of_length_le (by omega)]; exact py)
    rw [show (10000 : Nat) = 9998 + 1 + 1 from rfl,Op.equalIn]
    simp only [Sem.run_bind,run_underlying hu,Result.andThen_ok,s1]
    rw [Std.Legacy.Range.forIn_eq_forIn_range']
    simp only [Std.Legacy.Range.size,Nat.sub_zero,Nat.add_sub_cancel,Nat.div_one]
    rw [ha]
    cases r <;> rfl
   ·cases hf
  ·cases hf
theorem op_eqs (hev : EvOK g lb ev a) (hm : MemR g own LC mem w) (hl : LocR g lb own loc w) (ho : OwnR base own w) {op : BinOp} {t ty : TypeId} {x y : Operand} (hop : o.op = .binOp op t x y ty)
  {x' y' : Opd} (hx : cOpd x = some x') (hy : cOpd y = some y') {ks : List KK} (hf : flatTy P t = some ks) {neg : Bool} (hn : op = if neg then .neq else .eql)
  (hr : aop ev loc mem callv o.dst (.eqs neg ks x' y') = some (v,u,m')) : OpOK P base LC g lb own loc w a o v u m' := by
 simp only [aop] at hr
 split at hr
 ·rename_i l m e1 e2
  simp only [Option.map_eq_some_iff,Prod.mk.injEq] at hr
  obtain ⟨r,hr,rfl,rfl,rfl⟩ := hr
  have k1 := hev _ _ hx
  have k2 := hev _ _ hy
  rw [e1] at k1; rw [e2] at k2
  cases hxe : a.eval x <;> rw [hxe] at k1 <;> (try (cases k1; done))
  cases hye : a.eval y <;> rw [hye] at k2 <;> (try (cases k2; done))
  obtain ⟨h1,h2⟩ := flat_spec (P := P) (w := w) hf k1 k2 hr
  refine .pure (x := .bool (if neg then !r else r)) hm hl ho ?_ (.bool _ _)
  cases neg <;> simp only [Bool.false_eq_true,if_false,if_true] at hn <;> subst hn
  ·simp only [execOp,hop,hxe,hye,Sem.run_bind,run_eqGuard_agg w .eql t x y _ _ h1,Result.andThen_ok,run_eql_struct,h2]; rfl
  ·simp only [execOp,hop,hxe,hye,Sem.run_bind,run_eqGuard_agg w .neq t x y _ _ h1,Result.andThen_ok,run_neq_struct,h2]; rfl
 ·cases hr
theorem op_insert (hev : EvOK g lb ev a) (hm : MemR g own LC mem w) (hl : LocR g lb own loc w) (ho : OwnR base own w) {t : TypeId} {x y z : Operand} (hop : o.op = .insert t x y z)
  (hc : copO P esc o = some ao) (hr : aop ev loc mem callv o.dst ao = some (v,u,m')) : OpOK P base LC g lb own loc w a o v u m' := by
 have e1 : copO P esc { o with op := .mapUpdate t x y z } = some ao := by rw [<- hc]; simp only [copO,hop]
 have e2 : execOp a.eval o = execOp a.eval { o with op := .mapUpdate t x y z } := by simp only [execOp,hop]
 have := op_mapup (o := { o with op := .mapUpdate t x y z }) hev hm hl ho rfl e1 hr
 unfold OpOK at this ⊢
 rw [e2]; exact this
theorem op_mkmap' (hm : MemR g own LC mem w) (hl : LocR g lb own loc w) (ho : OwnR base own w) {t : TypeId} {r : Operand} (hop : o.op = .makeMap t (some r))
  (hc : copO P esc o = some ao) (hr : aop ev loc mem callv o.dst ao = some (v,u,m')) : OpOK P base LC g lb own loc w a o v u m' := by
 cases r with
 | const c =>
  cases c with
  | int k n =>
   simp only [copO,hop] at hc
   split at hc
   ·rename_i kt et hu
    cases hc
    have e1 : copO P esc { o with op := .makeMap t none } = some .mkmap := by simp only [copO]
    have e2 : (execOp a.eval o).run P w = (execOp a.eval { o with op := .makeMap t none }).run P w := by
     simp only [execOp,hop,Option.map_some,Option.map_none,Instr.makeMap,Act.eval,Sem.run_bind,run_underlying hu,Result.andThen_ok,asInt,asIntOf,Sem.run_pure]
    have := op_mkmap (a := a) (o := { o with op := .makeMap t none }) hm hl ho rfl e1 hr
    unfold OpOK at this ⊢
    rw [e2]; exact this
   ·cases hc
  | _ => simp only [copO,hop] at hc; cases hc
 | _ => simp only [copO,hop] at hc; cases hc
theorem op_sound (hev : EvOK g lb ev a) (hm : MemR g own LC mem w) (hl : LocR g lb own loc w) (ho : OwnR base own w) (hc : copO P esc o = some ao) (hnc : ∀ f args,ao ≠ .call f args)
  (hr : aop ev loc mem callv o.dst ao = some (v,u,m')) : OpOK P base LC g lb own loc w a o v u m' := by
 cases hop : o.op with
 | move x => exact op_mv hev hm hl ho (.inl hop) hc hr
 | assign x => exact op_mv hev hm hl ho (.inr hop) hc hr
 | pick c x y => exact op_pick hev hm hl ho hop hc hr
 | alloc e => exact op_alloc hm hl ho hop hc hr
 | box e x => exact op_box hev hm hl ho hop hc hr
 | build t ps => exact op_build hev hm hl ho hop hc hr
 | buildSlice t n ps => exact op_bslice hev hm hl ho hop hc hr
 | load t x => exact op_ld hev hm hl ho hop hc hr
 | store t x y => exact op_st hev hm hl ho hop hc hr
 | nilCheck x => exact op_nilck hev hm hl ho hop hc hr
 | unOp op t x => exact op_un hev hm hl ho hop hc hr
 | convert s d x => exact op_conv hev hm hl ho hop hc hr
 | makeInterface t x => exact op_mkif hev hm hl ho hop hc hr
 | makeFunc f x y => exact op_mkfn hev hm hl ho hop hc hr
 | fieldAddr s x f => exact op_fa hev hm hl ho hop hc hr
 | field s x f => exact op_fld hev hm hl ho hop hc hr
 | indexAddr t x i => exact op_index hev hm hl ho hop hc hr
 | index t x i => exact op_ix hev hm hl ho hop hc hr
 | lookup t x i ok => exact op_lookup hev hm hl ho hop hc hr
 | mapUpdate t x y z => exact op_mapup hev hm hl ho hop hc hr
 | slice t x lo hi mx => exact op_slc hev hm hl ho hop hc hr
 | extract x k => exact op_ext hev hm hl ho hop hc hr
 | range t x => exact op_rng hev hm hl ho hop hc hr
 | makeMap t r =>
  cases r with
  | none => exact op_mkmap hm hl ho hop hc hr
  | some r => exact op_mkmap' hm hl ho hop hc hr
 | insert t x y z => exact op_insert hev hm hl ho hop hc hr
 | next x b =>
  cases b with
  | true => exact op_nxt hev hm hl ho hop hc hr
  | false => simp only [copO,hop] at hc; cases hc
 | binOp op t x y ty =>
  have hc0 := hc
  simp only [copO,hop] at hc
  split at hc
  ·rename_i h1 h2 h3; cases hc; exact op_bin hev hm hl ho hop h2 h3 hr
  ·rename_i h1 h2 h3; cases hc; exact op_bin hev hm hl ho hop h2 h3 hr
  ·rename_i h1 h2 h3
   split at hc
   ·cases hc; exact op_eqb hev hm hl ho hop h2 h3 h1 (neg := false) rfl hr
   ·cases hc; exact op_eqb hev hm hl ho hop h2 h3 h1 (neg := true) rfl hr
   ·cases hc
  ·rename_i h1 h2 h3
   split at hc
   ·rename_i hf; cases hc; exact op_eqs hev hm hl ho hop h2 h3 hf (neg := false) rfl hr
   ·rename_i hf; cases hc; exact op_eqs hev hm hl ho hop h2 h3 hf (neg := true) rfl hr
   ·cases hc
  ·rename_i h1 h2 h3
   split at hc
   ·rename_i hf; cases hc; exact op_eqs hev hm hl ho hop h2 h3 hf (neg := false) rfl hr
   ·rename_i hf; cases hc; exact op_eqs hev hm hl ho hop h2 h3 hf (neg := true) rfl hr
   ·cases hc
  ·rename_i h1 h2 h3; exact op_isnil hev hm hl ho hop h2 hc (fun v hv => ⟨⟨_,h1⟩,hv⟩) hr
  ·rename_i h1 h2 h3; exact op_isnil hev hm hl ho hop h2 hc (fun v hv => ⟨⟨_,h1⟩,hv⟩) hr
  ·rename_i h1 h2 h3; exact op_isnil hev hm hl ho hop h2 hc (fun v hv => ⟨⟨_,_,_,h1⟩,hv⟩) hr
  ·rename_i h1 h2 h3; exact op_isnil hev hm hl ho hop h2 hc (fun v hv => ⟨⟨_,h1⟩,hv⟩) hr
  ·rename_i h1 h2 h3; exact op_isnil hev hm hl ho hop h2 hc (fun v hv => ⟨⟨_,_,h1⟩,hv⟩) hr
  ·cases hc
 | makeSlice t x y => exact op_mkslc hev hm hl ho hop hc hr
 | call c =>
  cases hb : c.callee with
  | value f =>
   simp only [copO,hop,hb] at hc
   split at hc
   ·cases hc; exact absurd rfl (hnc _ _)
   ·cases hc
  | invoke r n => simp only [copO,hop,hb] at hc; cases hc
  | builtin b =>
   cases b <;> first
    | exact op_app hev hm hl ho hop hb hc hr
    | exact op_len hev hm hl ho hop hb hc hr
    | exact op_del hev hm hl ho hop hb hc hr
    | exact op_cpy hev hm hl ho hop hb hc hr
    | exact op_clr hev hm hl ho hop hb hc hr
    | exact op_max hev hm hl ho hop (.inl hb) hc hr
    | exact op_max hev hm hl ho hop (.inr hb) hc hr
    | (simp only [copO,hop,hb] at hc; cases hc)
 | _ => simp only [copO,hop] at hc; cases hc
end
end Go.Abs
