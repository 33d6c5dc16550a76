/- A text of this proof. -/
import Derived.Test.YtiigojkfojnedaaGreatDoorPM
set_option linter.unusedVariables false
set_option linter.unusedSimpArgs false
namespace Go.Abs
section
variable {P : Program} {base : Nat} {LC : LCR} {g : Gh} {lb : LB} {own : OW} {loc : Nat -> Option (Nat × Blk)} {mem : Mem} {w : World} {esc : Nat -> Bool} {callv : CallV}
variable {ev : Opd -> AV} {a : Act} {o : Oper} {ao : AO} {v : AV} {u : Upd} {m' : Mem}
theorem fill_dense (sz : Nat) : ∀ (parts : List (Nat × Operand)) (k : Nat) (xs : List Operand) (cs : Array Value),dense k parts = some xs -> (∀ x ∈ xs,(a.eval x).cells.size = sz) -> (k + xs.length) * sz <= cs.size →
  ∃ ws : Array Value,Instr.fill (fun i => some (i * sz,sz)) cs (parts.map fun (i,x) => (i,a.eval x)) = some ws ∧
   ws.toList = cs.toList.take (k * sz) ++ (xs.map fun x => (a.eval x).cells.toList).flatten ++ cs.toList.drop ((k + xs.length) * sz)
 | [],k,xs,cs,h,_,_ => by cases h; exact ⟨cs,rfl,by simp⟩
 | (i,x) :: parts,k,xs,cs,h,hs,hle => by
  simp only [dense] at h
  split at h
  ·rename_i hik
   subst hik
   simp only [Option.map_eq_some_iff] at h
   obtain ⟨ys,hy,rfl⟩ := h
   have hx : (a.eval x).cells.size = sz := hs x (by simp)
   simp only [List.length_cons] at hle
   have hle1 : i * sz + sz <= cs.size := by
    have : (i + 1) * sz <= (i + (ys.length + 1)) * sz := Nat.mul_le_mul_right _ (by omega)
    rw [Nat.add_mul] at this; omega
   let vs' : Array Value := (a.eval x).cells.zipIdx.foldl (fun cs (c,j) => cs.setIfInBounds (i * sz + j) c) cs
   have hvs' : vs'.toList = cs.toList.take (i * sz) ++ (a.eval x).cells.toList ++ cs.toList.drop (i * sz + sz) := by
    have h := foldl_set (i * sz) (a.eval x).cells.toList 0 cs (by simp only [Array.length_toList,hx]; omega)
    simp only [Nat.add_zero,Array.length_toList,hx] at h
    rw [<- h]
    simp only [vs',<- Array.foldl_toList,Array.toList_zipIdx]
   have hsz' : vs'.size = cs.size := by
    have := congrArg List.length hvs'
    simp [hx] at this; omega
   have hle2 : (i + 1 + ys.length) * sz <= vs'.size := by
    have : i + 1 + ys.length = i + (ys.length + 1) := by omega
    rw [hsz',this]; exact hle
   obtain ⟨ws,e1,e2⟩ := fill_dense sz parts (i + 1) ys vs' hy (fun y hy => hs y (by simp [hy])) hle2
   refine ⟨ws,?_,?_⟩
   ·simp only [List.map_cons,Instr.fill]
    rw [if_neg (by simp [hx]; omega)]
    exact e1
   ·rw [e2,hvs']
    have h1 : (i + 1) * sz = i * sz + sz := by rw [Nat.add_mul,Nat.one_mul]
    have h2 : (i + 1 + ys.length) * sz = i * sz + sz + ys.length * sz := by rw [Nat.add_mul,h1]
    have h3 : (i + (ys.length + 1)) * sz = i * sz + sz + ys.length * sz := by rw [Nat.add_mul,Nat.add_mul,Nat.one_mul]; omega
    have hl : (cs.toList.take (i * sz) ++ (a.eval x).cells.toList).length = i * sz + sz := by simp [hx]; omega
    rw [h1,h2]
    simp only [List.map_cons,List.flatten_cons,List.length_cons,h3]
    rw [List.take_append_of_le_length (by rw [hl]; exact Nat.le_refl _),List.take_of_length_le (by rw [hl]; exact Nat.le_refl _)]
    rw [List.drop_append,hl,List.drop_of_length_le (by rw [hl]; omega)]
    simp [List.append_assoc]
  ·cases h
theorem FR.flatten {sz : Nat} (h0 : 0 < sz) : ∀ (l : List AV) (m : List Value),PW (VR g lb) l m -> (∀ e ∈ l,e.cells.length = sz) -> FR g lb sz l (m.map fun x => x.cells.toList).flatten
 | [],[],_,_ => FR.nil sz
 | [],_ :: _,h,_ => by have := h.1; simp at this
 | _ :: _,[],h,_ => by have := h.1; simp at this
 | e :: l,x :: m,h,hs => by
  have h1 := FR.one (g := g) (lb := lb) (h.2 0 (by simp) (by simp)) (hs e (by simp)) h0
  have h2 := FR.flatten h0 l m ⟨by have := h.1; simpa using this,fun i hi hi' => by have := h.2 (i + 1) (by simpa using hi) (by simpa using hi'); simpa using this⟩ (fun e he => hs e (by simp [he]))
  have := h1.append h2
  simpa using this
theorem op_bslice (hev : EvOK g lb ev a) (hm : MemR g own LC mem w) (hl : LocR g lb own loc w) (ho : OwnR base own w) {t : TypeId} {len : Nat} {parts : Array (Nat × Operand)} (hop : o.op = .buildSlice t len parts)
  (hc : copO P esc o = some ao) (hr : aop ev loc mem callv o.dst ao = some (v,u,m')) : OpOK P base LC g lb own loc w a o v u m' := by
 simp only [copO,hop] at hc
 split at hc
 ·rename_i e xs hu hd
  split at hc
  ·rename_i sz ag z xs' hsz hag hz hxs
   split at hc
   ·rename_i hlen
    obtain ⟨hlen,hbig⟩ := hlen
    cases hc
    simp only [aop] at hr
    split at hr
    ·rename_i hall
     simp only [Option.some.injEq,Prod.mk.injEq] at hr
     obtain ⟨rfl,rfl,rfl⟩ := hr
     simp only [List.all_eq_true] at hall
     obtain ⟨s1,h0,s3⟩ := tySz_spec (P := P) (w := w) hsz
     obtain ⟨zv,i,hi,hz1,hz2,hzs,hzl,hi0,-,-⟩ := tyZero_spec (P := P) (g := g) (lb := lb) (w := w) hz
     have hisz : i.size = sz := by rw [hi] at s3; simpa using s3
     have hpw := evs_spec hev hxs
     have hcl : ∀ e ∈ xs'.map ev,e.cells.length = sz := fun e he => by
      obtain ⟨x,hx,rfl⟩ := List.mem_map.1 he
      exact shaped_cells (hall x hx)
     have hxl : xs.length = xs'.length := by have := hpw.1; simp at this; omega
     have hcsz : ∀ x ∈ xs,(a.eval x).cells.size = sz := fun x hx => by
      obtain ⟨j,hj,rfl⟩ := List.mem_iff_getElem.1 hx
      have hj' : j < xs'.length := by omega
      have hvr := hpw.2 j (by simpa using hj') (by simpa using hj)
      simp only [List.getElem_map] at hvr
      have hc := hcl (ev xs'[j]) (List.mem_map.2 ⟨_,List.getElem_mem hj',rfl⟩)
      have := (pw_cells hvr (by omega)).1.1
      simp at this; omega
     let init : Array Value := (Array.range (len * sz)).map (zv.cells[· % zv.cells.size]!)
     obtain ⟨ws,e1,e2⟩ := fill_dense (a := a) sz parts.toList 0 xs init hd hcsz (by simp [init,hlen])
     have hws : ws.toList = (xs.map fun x => (a.eval x).cells.toList).flatten := by
      rw [e2]
      have : init.toList.drop ((0 + xs.length) * sz) = [] := List.drop_of_length_le (by simp [init,hlen])
      rw [this]; simp
     have hfr : FR g noLB sz (xs'.map fun x => mem.nol (ev x)) ws.toList := by
      rw [hws]
      have h1 := (FR.flatten h0 (xs'.map ev) (xs.map a.eval) hpw hcl).nol hm
      simpa [List.map_map,Function.comp_def] using h1
     have hpost := row_spec (e := e) hm hl ho hfr
     have hlen2 : (xs'.map fun x => mem.nol (ev x)).length = len := by simp; omega
     rw [hlen2] at hpost
     refine ⟨_,_,.inl ?_,hpost⟩
     have hmap : (parts.map fun (i,x) => (i,a.eval x)).toList = parts.toList.map fun (i,x) => (i,a.eval x) := by simp
     by_cases hl0 : len * sz = 0
     ·have hinit : init = (Array.range (len * sz)).map ((#[] : Array Value)[· % (#[] : Array Value).size]!) := by simp [init,hl0]
      simp only [execOp,hop,Instr.buildSlice,Sem.run_bind,run_underlying hu,Result.andThen_ok,s1]
      rw [if_neg (by omega),if_pos hl0]
      simp only [Sem.run_bind,Sem.run_pure,Result.andThen_ok,hmap]
      rw [<- hinit,e1]
      simp only [newRow,run_newObj,Sem.run_bind,Result.andThen_ok,Sem.run_pure]
      rfl
     ·simp only [execOp,hop,Instr.buildSlice,Sem.run_bind,run_underlying hu,Result.andThen_ok,s1]
      rw [if_neg (by omega),if_neg hl0]
      simp only [Sem.run_bind,hz2,Sem.run_pure,Result.andThen_ok,hmap]
      have e1' : Instr.fill (fun i => some (i * sz,sz)) ((Array.range (len * sz)).map (zv.cells[· % zv.cells.size]!)) (parts.toList.map fun (i,x) => (i,a.eval x)) = some ws := e1
      rw [e1']
      simp only [newRow,run_newObj,Sem.run_bind,Result.andThen_ok,Sem.run_pure]
      rfl
    ·cases hr
   ·cases hc
  ·cases hc
 ·cases hc
theorem op_max (hev : EvOK g lb ev a) (hm : MemR g own LC mem w) (hl : LocR g lb own loc w) (ho : OwnR base own w) {c : Call} (hop : o.op = .call c) (hb : c.callee = .builtin .max \/ c.callee = .builtin .min)
  (hc : copO P esc o = some ao) (hr : aop ev loc mem callv o.dst ao = some (v,u,m')) : OpOK P base LC g lb own loc w a o v u m' := by
 have key : ∃ x y x' y',c.args.toList = [x,y] /\ cOpd x = some x' /\ cOpd y = some y' /\ ((c.callee = .builtin .max /\ ao = .max x' y') \/ (c.callee = .builtin .min /\ ao = .min x' y')) := by
  rcases hb with hb | hb <;> simp only [copO,hop,hb] at hc
  all_goals
   split at hc
   ·rename_i x y hxy
    split at hc
    ·rename_i x' y' hx hy
     cases hc
     exact ⟨x,y,x',y',hxy,hx,hy,by simp [hb]⟩
    ·cases hc
   ·cases hc
 obtain ⟨x,y,x',y',hxy,hx,hy,hao⟩ := key
 have hargs : (c.args.map a.eval) = #[a.eval x,a.eval y] := by
  have : (c.args.map a.eval).toList = [a.eval x,a.eval y] := by simp [hxy]
  rw [<- Array.toArray_toList (xs := c.args.map a.eval),this]
 rcases hao with ⟨hb,rfl⟩ | ⟨hb,rfl⟩
 all_goals
  simp only [aop] at hr
  split at hr
  ·rename_i k p k' q e1 e2
   split at hr
   ·rename_i hk; subst hk
    simp only [Option.some.injEq,Prod.mk.injEq] at hr
    obtain ⟨rfl,rfl,rfl⟩ := hr
    have k1 := hev _ _ hx
    have k2 := hev _ _ hy
    rw [e1] at k1; rw [e2] at k2
    refine .pure hm hl ho ?_ (.int _ _ _)
    simp only [execOp,hop,resolve,hb,hargs,vr_int k1,vr_int k2,Sem.run_bind,Sem.run_pure,Result.andThen_ok,invoke,builtin,Builtin.max_,Builtin.min_]
    rfl
   ·cases hr
  ·cases hr
end
end Go.Abs
namespace Go.Abs
section
variable {P : Program} {base : Nat} {LC : LCR} {g : Gh} {lb : LB} {own : OW} {loc : Nat -> Option (Nat × Blk)} {mem : Mem} {w : World} {esc : Nat -> Bool} {callv : CallV}
variable {ev : Opd -> AV} {a : Act} {o : Oper} {ao : AO} {v : AV} {u : Upd} {m' : Mem}
theorem map_spec (hm : MemR g own LC mem w) {id : Nat} {es : List (AV × AV)} {x : Value} (hx : VR g lb (.map id) x) (hb : mem.blks[id]? = some (.map es)) :
  ∃ (b : Nat) (ents : Array MapEntry) (clock : Nat),x = .map (some b) /\ g.mb id = some b /\ own b = some (.m id) /\ (∀ o,g.im b o = none) /\ w.heap[b]? = some (.map ents clock) /\ ents.size = es.length ∧
   (∀ i (h : i < es.length) (h' : i < ents.size),VR g noLB es[i].1 ents[i].key /\ VR g noLB es[i].2 ents[i].val) /\ ∀ p ∈ es,plain p.1 = true /\ plain p.2 = true := by
 cases hx with
 | map _ _ b h =>
  obtain ⟨b',h1,h2,h3,ents,clock,h4,h5,h6,h7⟩ := hm.blk id _ hb
  rw [h] at h1; cases h1
  exact ⟨b,ents,clock,rfl,h,h2,h3,h4,h5,h6,h7⟩
theorem run_getObj_map {b : Nat} {ents : Array MapEntry} {clock : Nat} (h : w.heap[b]? = some (.map ents clock)) : (getObj b).run P w = .ok (.map ents clock) w := by
 simp only [getObj,Sem.run,h]
theorem op_len (hev : EvOK g lb ev a) (hm : MemR g own LC mem w) (hl : LocR g lb own loc w) (ho : OwnR base own w) {c : Call} (hop : o.op = .call c) (hb : c.callee = .builtin .len)
  (hc : copO P esc o = some ao) (hr : aop ev loc mem callv o.dst ao = some (v,u,m')) : OpOK P base LC g lb own loc w a o v u m' := by
 simp only [copO,hop,hb] at hc
 split at hc
 ·rename_i x t hargs htys
  have hargs' : (c.args.map a.eval) = #[a.eval x] := by
   have : (c.args.map a.eval).toList = [a.eval x] := by simp [hargs]
   rw [<- Array.toArray_toList (xs := c.args.map a.eval),this]
  have htys' : c.argTypes = #[t] := by rw [<- Array.toArray_toList (xs := c.argTypes),htys]
  have hrun : ∀ y w',(Builtin.len_ #[t] o.type #[a.eval x]).run P w = .ok y w' -> (execOp a.eval o).run P w = .ok (.value y) w' := fun y w' h => by
   simp only [execOp,hop,resolve,hb,hargs',htys',Sem.run_bind,Sem.run_pure,Result.andThen_ok,invoke,builtin,h]
  split at hc
  ·rename_i x' hu hx
   cases hc
   have k1 := hev _ _ hx
   obtain ⟨xv,hxe⟩ : ∃ xv,a.eval x = xv := ⟨_,rfl⟩
   rw [hxe] at k1
   simp only [aop] at hr
   split at hr
   ·rename_i s e1
    simp only [Option.some.injEq,Prod.mk.injEq] at hr
    obtain ⟨rfl,rfl,rfl⟩ := hr
    rw [e1] at k1
    cases k1 with
    | str _ bs _ hbs =>
     refine .pure hm hl ho (hrun (.int .i64 bs.size) w ?_) (by rw [str_len hbs]; exact .int _ _ _)
     simp [hxe,Builtin.len_,run_underlying hu,goInt]
   ·cases hr
  ·rename_i e x' hu hx
   cases hc
   have k1 := hev _ _ hx
   obtain ⟨xv,hxe⟩ : ∃ xv,a.eval x = xv := ⟨_,rfl⟩
   rw [hxe] at k1
   simp only [aop] at hr
   split at hr
   ·rename_i c' l e1
    simp only [Option.some.injEq,Prod.mk.injEq] at hr
    obtain ⟨rfl,rfl,rfl⟩ := hr
    rw [e1] at k1
    have hs : ∃ A cap,xv = .slice A l.length cap := by
     cases k1 with
     | listNil => exact ⟨_,_,rfl⟩
     | listE => exact ⟨_,_,rfl⟩
     | list _ _ _ b o sz n cap xs hn => subst hn; exact ⟨_,_,rfl⟩
    obtain ⟨A,cap,rfl⟩ := hs
    refine .pure hm hl ho (hrun (.int .i64 l.length) w ?_) (.int _ _ _)
    simp [hxe,Builtin.len_,run_underlying hu,goInt]
   ·rename_i id off n cp e1
    simp only [Option.some.injEq,Prod.mk.injEq] at hr
    obtain ⟨rfl,rfl,rfl⟩ := hr
    rw [e1] at k1
    cases k1
    refine .pure hm hl ho (hrun (.int .i64 n) w ?_) (.int _ _ _)
    simp [hxe,Builtin.len_,run_underlying hu,goInt]
   ·cases hr
  ·rename_i k e x' hu hx
   cases hc
   have k1 := hev _ _ hx
   obtain ⟨xv,hxe⟩ : ∃ xv,a.eval x = xv := ⟨_,rfl⟩
   rw [hxe] at k1
   simp only [aop] at hr
   split at hr
   ·rename_i e1
    simp only [Option.some.injEq,Prod.mk.injEq] at hr
    obtain ⟨rfl,rfl,rfl⟩ := hr
    rw [e1] at k1
    cases k1
    refine .pure hm hl ho (hrun (.int .i64 0) w ?_) (.int _ _ _)
    simp [hxe,Builtin.len_,run_underlying hu,goInt]
   ·rename_i id e1
    split at hr
    ·rename_i es he
     simp only [Option.some.injEq,Prod.mk.injEq] at hr
     obtain ⟨rfl,rfl,rfl⟩ := hr
     rw [e1] at k1
     obtain ⟨b,ents,clock,rfl,-,-,-,h4,h5,-⟩ := map_spec hm k1 he
     refine .pure hm hl ho (hrun (.int .i64 es.length) w ?_) (.int _ _ _)
     simp [hxe,Builtin.len_,run_underlying hu,goInt,run_getObj_map h4,h5]
    ·cases hr
   ·cases hr
  ·rename_i n e x' hu hx
   cases hc
   simp only [aop,Option.some.injEq,Prod.mk.injEq] at hr
   obtain ⟨rfl,rfl,rfl⟩ := hr
   refine .pure hm hl ho (hrun (.int .i64 n) w ?_) (.int _ _ _)
   generalize a.eval x = xv
   cases xv <;> simp [Builtin.len_,run_underlying hu,goInt]
  ·cases hc
 ·cases hc
theorem op_app (hev : EvOK g lb ev a) (hm : MemR g own LC mem w) (hl : LocR g lb own loc w) (ho : OwnR base own w) {c : Call} (hop : o.op = .call c) (hb : c.callee = .builtin .append)
  (hc : copO P esc o = some ao) (hr : aop ev loc mem callv o.dst ao = some (v,u,m')) : OpOK P base LC g lb own loc w a o v u m' := by
 simp only [copO,hop,hb] at hc
 split at hc
 ·rename_i x y t t' hargs htys
  split at hc
  ·rename_i e x' y' hu hx hy
   split at hc
   ·rename_i i ag z hi hag hz
    split at hc
    ·rename_i htt
     subst htt
     cases hc
     have hargs' : (c.args.map a.eval) = #[a.eval x,a.eval y] := by
      have : (c.args.map a.eval).toList = [a.eval x,a.eval y] := by simp [hargs]
      rw [<- Array.toArray_toList (xs := c.args.map a.eval),this]
     have htys' : c.argTypes = #[t,t] := by rw [<- Array.toArray_toList (xs := c.argTypes),htys]
     simp only [aop,Option.map_eq_some_iff,Prod.mk.injEq,Prod.exists] at hr
     obtain ⟨r,m1,hr,rfl,rfl,rfl⟩ := hr
     obtain ⟨zv,i',hi',hz1,hz2,hzs,-,-,-,-⟩ := tyZero_spec (P := P) (g := g) (lb := lb) (w := w) hz
     rw [hi] at hi'; cases hi'
     obtain ⟨xr,w',h1,h2⟩ := app_spec (P := P) (ty := o.type) hm hl ho (hev _ _ hx) (hev _ _ hy) hu hi hz1 hzs hr
     refine ⟨xr,w',.inl ?_,h2⟩
     simp only [execOp,hop,resolve,hb,hargs',htys',Sem.run_bind,Sem.run_pure,Result.andThen_ok,invoke,builtin,h1]
    ·cases hc
   ·cases hc
  ·cases hc
 ·cases hc
theorem key_spec {kk : KK} {kt : TypeId} (hk : keyKind P kt = some kk) {k : AV} {kv : Value} (hkey : isKey kk k = true) (hv : VR g lb k kv) (em : Bool) :
  (Instr.checkKey em 10000 kt kv).run P w = .ok () w /\ ∃ d,P.underlying kt = some d /\ ∀ (k' : AV) (kv' : Value) (r : Bool),VR g noLB k' kv' -> keyEq k k' = some r -> Instr.sameNow d kv kv' = some r := by
 have hck : ∀ d,P.underlying kt = some d -> (∀ ms,d ≠ .interface ms) -> (∀ n e,d ≠ .array n e) -> (∀ fs,d ≠ .struct fs) -> ∀ n,(Instr.checkKey em (n + 1) kt kv).run P w = .ok () w := by
  intro d hu h1 h2 h3 n
  simp only [Instr.checkKey,Sem.run_bind,run_underlying hu,Result.andThen_ok]
  cases d <;> first | rfl | exact absurd rfl (h1 _) | exact absurd rfl (h2 _ _) | exact absurd rfl (h3 _)
 unfold keyKind at hk
 split at hk
 ·rename_i q hu; cases hk
  refine ⟨hck _ hu (by simp) (by simp) (by simp) 9999,_,hu,fun k' kv' r hv' hr => ?_⟩
  cases k <;> simp [isKey] at hkey
  cases hv
  cases k' <;> simp [keyEq] at hr
  cases hv'
  simp only [Instr.sameNow]
  obtain ⟨hkk,rfl⟩ := hr
  rw [if_pos hkk]; rfl
 ·rename_i hu; cases hk
  refine ⟨hck _ hu (by simp) (by simp) (by simp) 9999,_,hu,fun k' kv' r hv' hr => ?_⟩
  cases k <;> simp [isKey] at hkey
  cases hv
  rename_i s bs hbs
  cases k' <;> simp [keyEq] at hr
  cases hv'
  rename_i s' bs' hbs'
  simp only [Instr.sameNow]
  subst hr
  rw [beq_toListBytes,str_eq hbs hbs']
 ·rename_i hu; cases hk
  refine ⟨hck _ hu (by simp) (by simp) (by simp) 9999,_,hu,fun k' kv' r hv' hr => ?_⟩
  cases k <;> simp [isKey] at hkey
  cases hv
  cases k' <;> simp [keyEq] at hr
  cases hv'
  simp only [Instr.sameNow]
  subst hr; rfl
 ·cases hk
def posOf (k : AV) : List (AV × AV) -> Nat -> Option (Nat × AV)
 | [],_ => none
 | (k',v) :: l,i => if keyEq k k' = some true then some (i,v) else posOf k l (i + 1)
theorem findNow_ok {kv : Value} {d : TypeDesc} {k : AV} (hs : ∀ (k' : AV) (kv' : Value) (r : Bool),VR g noLB k' kv' -> keyEq k k' = some r -> Instr.sameNow d kv kv' = some r) :
  ∀ (es : List (AV × AV)) (ents : List MapEntry) (i : Nat),es.length = ents.length -> (∀ j (h : j < es.length) (h' : j < ents.length),VR g noLB es[j].1 ents[j].key /\ VR g noLB es[j].2 ents[j].val) →
  mfind k es ≠ none -> ((mfind k es = some none /\ Instr.findNow d kv ents i = some none /\ posOf k es i = none) ∨
   ∃ j v,mfind k es = some (some v) /\ posOf k es i = some (i + j,v) /\ ∃ (h : j < es.length) (h' : j < ents.length),v = es[j].2 /\ Instr.findNow d kv ents i = some (some (i + j,ents[j].val)))
 | [],[],i,_,_,_ => .inl ⟨rfl,rfl,rfl⟩
 | [],_ :: _,_,h,_,_ => by simp at h
 | _ :: _,[],_,h,_,_ => by simp at h
 | (k',v) :: es,e :: ents,i,hlen,hv,hne => by
  have h0 := hv 0 (by simp) (by simp)
  simp only [List.getElem_cons_zero] at h0
  simp only [mfind] at hne ⊢
  cases hk : keyEq k k' with
  | none => rw [hk] at hne; exact absurd rfl hne
  | some r =>
   rw [hk] at hne
   have hsn := hs _ _ r h0.1 hk
   cases r with
   | true =>
    exact .inr ⟨0,v,rfl,by simp [posOf,hk],by simp,by simp,rfl,by simp [Instr.findNow,hsn]⟩
   | false =>
    dsimp only at hne ⊢
    have ih := findNow_ok hs es ents (i + 1) (by simpa using hlen) (fun j h h' => by have := hv (j + 1) (by simpa using h) (by simpa using h'); simpa using this) hne
    rcases ih with ⟨h1,h2,h3⟩ | ⟨j,v',h1,h2,h3,h4,h5,h6⟩
    ·exact .inl ⟨h1,by simp [Instr.findNow,hsn,h2],by simp [posOf,hk,h3]⟩
    ·refine .inr ⟨j + 1,v',h1,?_,by simpa using h3,by simpa using h4,by simpa using h5,?_⟩
     ·simp only [posOf,hk]; rw [if_neg (by simp),h2]; simp; omega
     ·simp only [Instr.findNow,hsn,h6,List.getElem_cons_succ]; simp; omega
theorem run_findKey' {kv : Value} {kt : TypeId} {d : TypeDesc} {l : List MapEntry} {r : Option (Nat × Value)} (hu : P.underlying kt = some d) (h : Instr.findNow d kv l 0 = some r) : (Instr.findKey kt kv l).run P w = .ok r w := by
 simp only [Instr.findKey,Sem.run_bind,run_underlying hu,Result.andThen_ok,h,Sem.run_pure]
theorem op_lookup (hev : EvOK g lb ev a) (hm : MemR g own LC mem w) (hl : LocR g lb own loc w) (ho : OwnR base own w) {t : TypeId} {x y : Operand} {ok : Bool} (hop : o.op = .lookup t x y ok)
  (hc : copO P esc o = some ao) (hr : aop ev loc mem callv o.dst ao = some (v,u,m')) : OpOK P base LC g lb own loc w a o v u m' := by
 simp only [copO,hop] at hc
 split at hc
 ·rename_i kt e x' y' hu hx hy
  split at hc
  ·rename_i z kk hz hkk
   cases hc
   obtain ⟨zv,hzr,hzv⟩ : ∃ zv,(zeroValue e).run P w = .ok zv w /\ VR g lb z zv := by
    unfold tyZeroV at hz
    split at hz
    ·rename_i i hi
     split at hz
     ·rename_i zv hzz
      exact ⟨zv,by simp [zeroValue,typeInfo,hi,hzz],absC_spec hz⟩
     ·cases hz
    ·cases hz
   have hno : ∀ (g : Gh) (x : AV) (y : Value),VR g noLB x y -> VR g lb x y := fun g x y h => h.mono g.sub_refl fun _ _ _ h => by cases h
   have hpair : ∀ {r : AV} {rv : Value} {b : Bool},VR g lb r rv -> VR g lb (if ok then .tup [r,.bool b] else r) (if ok then .tuple #[rv,.bool b] else rv) := fun {r rv b} h => by
    cases ok
    ·exact h
    ·refine .tup _ _ _ rfl fun i hi hi' => ?_
     match i,hi with
     | 0,_ => exact h
     | 1,_ => exact .bool _ _
   simp only [aop] at hr
   split at hr
   ·rename_i e1
    split at hr
    ·rename_i hkey
     simp only [Option.some.injEq,Prod.mk.injEq] at hr
     obtain ⟨rfl,rfl,rfl⟩ := hr
     obtain ⟨hck,d,hud,-⟩ := key_spec (P := P) (w := w) hkk hkey (hev _ _ hy) true
     have k1 := hev _ _ hx
     rw [e1] at k1
     obtain ⟨xv,hxe⟩ : ∃ xv,a.eval x = xv := ⟨_,rfl⟩
     rw [hxe] at k1
     cases k1
     have hfk : (Instr.findKey kt (a.eval y) []).run P w = .ok none w := run_findKey' hud rfl
     refine .pure hm hl ho ?_ (hpair (b := false) hzv)
     simp only [execOp,hop,hxe,Instr.lookup,Sem.run_bind,run_underlying hu,Result.andThen_ok,Sem.run_pure]
     simp only [Array.isEmpty,Array.size_empty,decide_true,hck,Result.andThen_ok,hfk,Sem.run_bind,hzr,Sem.run_pure]
    ·cases hr
   ·rename_i id e1
    split at hr
    ·rename_i es he
     split at hr
     ·rename_i hkey
      simp only [Option.map_eq_some_iff] at hr
      obtain ⟨fr,hfr,hr⟩ := hr
      have k1 := hev _ _ hx
      rw [e1] at k1
      obtain ⟨xv,hxe⟩ : ∃ xv,a.eval x = xv := ⟨_,rfl⟩
      rw [hxe] at k1
      obtain ⟨b,ents,clock,rfl,h2,h3,h4,h5,h6,h7,-⟩ := map_spec hm k1 he
      obtain ⟨hck,d,hud,hsn⟩ := key_spec (P := P) (w := w) hkk hkey (hev _ _ hy) ents.isEmpty
      have hfn := findNow_ok hsn es ents.toList 0 (by simpa using h6.symm) (fun j h h' => by have := h7 j h (by simpa using h'); simpa using this) (by rw [hfr]; simp)
      rcases hfn with ⟨f1,f2,-⟩ | ⟨j,v',f1,-,f3,f4,f5,f6⟩
      ·rw [hfr] at f1; cases f1
       simp only [Prod.mk.injEq] at hr
       obtain ⟨rfl,rfl,rfl⟩ := hr
       have hfk : (Instr.findKey kt (a.eval y) ents.toList).run P w = .ok none w := run_findKey' hud f2
       refine .pure hm hl ho ?_ (hpair (b := false) hzv)
       simp only [execOp,hop,hxe,Instr.lookup,Sem.run_bind,run_underlying hu,Result.andThen_ok,run_getObj_map h5,Sem.run_pure,hck,hfk,hzr]
      ·rw [hfr] at f1; cases f1
       simp only [Prod.mk.injEq] at hr
       obtain ⟨rfl,rfl,rfl⟩ := hr
       subst f5
       have hval := (h7 j f3 (by simpa using f4)).2
       have hfk : (Instr.findKey kt (a.eval y) ents.toList).run P w = .ok (some (0 + j,ents.toList[j].val)) w := run_findKey' hud f6
       refine .pure hm hl ho ?_ (hpair (b := true) (hno _ _ _ hval))
       simp only [execOp,hop,hxe,Instr.lookup,Sem.run_bind,run_underlying hu,Result.andThen_ok,run_getObj_map h5,Sem.run_pure,hck,hfk,Array.getElem_toList]
     ·cases hr
    ·cases hr
   ·cases hr
  ·cases hc
 ·cases hc
theorem mset_spec {k v : AV} : ∀ (es r : List (AV × AV)) (i : Nat),mset k v es = some r -> (mfind k es = some none /\ posOf k es i = none /\ r = es ++ [(k,v)]) ∨
  ∃ j v',mfind k es = some (some v') /\ posOf k es i = some (i + j,v') /\ (∃ h : j < es.length,keyEq k es[j].1 = some true) /\ r = es.set j (k,v)
 | [],r,i,h => by cases h; exact .inl ⟨rfl,rfl,rfl⟩
 | (k',v') :: es,r,i,h => by
  simp only [mset] at h
  cases hk : keyEq k k' with
  | none => rw [hk] at h; cases h
  | some t =>
   rw [hk] at h
   cases t with
   | true => cases h; exact .inr ⟨0,v',by simp [mfind,hk],by simp [posOf,hk],⟨by simp,hk⟩,rfl⟩
   | false =>
    simp only [Option.map_eq_some_iff] at h
    obtain ⟨r',h,rfl⟩ := h
    rcases mset_spec es r' (i + 1) h with ⟨h1,h2,rfl⟩ | ⟨j,v2,h1,h2,⟨h3,h3'⟩,rfl⟩
    ·exact .inl ⟨by simp [mfind,hk,h1],by simp [posOf,hk,h2],rfl⟩
    ·exact .inr ⟨j + 1,v2,by simp [mfind,hk,h1],by simp [posOf,hk,h2]; omega,⟨by simpa using h3,by simpa using h3'⟩,rfl⟩
theorem mdel_spec {k : AV} : ∀ (es r : List (AV × AV)) (i : Nat),mdel k es = some r -> (mfind k es = some none /\ posOf k es i = none /\ r = es) ∨
  ∃ j v',mfind k es = some (some v') /\ posOf k es i = some (i + j,v') /\ j < es.length /\ r = es.eraseIdx j
 | [],r,i,h => by cases h; exact .inl ⟨rfl,rfl,rfl⟩
 | (k',v') :: es,r,i,h => by
  simp only [mdel] at h
  cases hk : keyEq k k' with
  | none => rw [hk] at h; cases h
  | some t =>
   rw [hk] at h
   cases t with
   | true => cases h; exact .inr ⟨0,v',by simp [mfind,hk],by simp [posOf,hk],by simp,rfl⟩
   | false =>
    simp only [Option.map_eq_some_iff] at h
    obtain ⟨r',h,rfl⟩ := h
    rcases mdel_spec es r' (i + 1) h with ⟨h1,h2,rfl⟩ | ⟨j,v2,h1,h2,h3,rfl⟩
    ·exact .inl ⟨by simp [mfind,hk,h1],by simp [posOf,hk,h2],rfl⟩
    ·exact .inr ⟨j + 1,v2,by simp [mfind,hk,h1],by simp [posOf,hk,h2]; omega,by simpa using h3,rfl⟩
def setObjW (w : World) (b : Nat) (o : Obj) : World := { w with heap := w.heap.setIfInBounds b o }
theorem setObj_post (hm : MemR g own LC mem w) (hl : LocR g lb own loc w) (ho : OwnR base own w) {id b : Nat} {x : Obj} {blk : Blk} (hb : own b = some (.m id)) (hid : id < mem.blks.length)
  (him : ∀ o,g.im b o = none) (hnew : BlkR g own LC (setObjW w b x) id blk) :
  Post base LC g lb own loc w .undef none (mem.put id blk true) undef (setObjW w b x) := by
 have hother : ∀ b',b' ≠ b -> (setObjW w b x).heap[b']? = w.heap[b']? := fun b' hne => by
  simp only [setObjW]; rw [Array.getElem?_setIfInBounds_ne (Ne.symm hne)]
 refine ⟨g,lb,own,⟨g.sub_refl,by simp [setObjW],rfl,rfl,rfl,fun b' _ ho => hother b' (by rintro rfl; rw [hb] at ho; cases ho),fun _ _ h => h,fun _ _ _ _ => rfl⟩,fun _ _ _ h => h,.undef _,?_,?_,?_⟩
 ·refine hm.upd hid g.sub_refl (fun _ h => h) (fun _ _ _ h => h) (fun id' b' hne hb' => ⟨rfl,hother b' ?_,fun _ => rfl⟩) hnew (fun b' o y hy => ?_)
  ·rintro rfl; rw [hb] at hb'; cases hb'; exact hne rfl
  ·have hne : b' ≠ b := by rintro rfl; rw [him] at hy; cases hy
   rw [cell?_of_heap (hother b' hne)]; exact hm.im _ _ _ hy
 ·exact hl.keep g.sub_refl fun d b' hb' => ⟨rfl,hother b' (by rintro rfl; rw [hb] at hb'; cases hb'),fun _ => rfl⟩
 ·exact ⟨fun b' o hb' => by simpa [setObjW] using ho.ge b' o hb',by simpa [setObjW] using ho.base⟩
theorem run_setObj_map {b : Nat} {ents : Array MapEntry} {clock : Nat} (h : w.heap[b]? = some (.map ents clock)) (x : Obj) : (setObj b x).run P w = .ok () (setObjW w b x) := by
 simp only [setObj,Sem.run,h]; rfl
theorem setObjW_at {b : Nat} {y : Obj} (h : w.heap[b]? = some y) (x : Obj) : (setObjW w b x).heap[b]? = some x := by
 have hlt := (Array.getElem?_eq_some_iff.1 h).1
 simp [setObjW,hlt]
end
end Go.Abs
namespace Go.Abs
mutual
theorem exp_plain (n : Nat) (k : Bool) : ∀ v : AV,plain v = true -> exp n k v = v
 | .undef,_ => rfl
 | .junk,_ => rfl
 | .int _ _,_ => rfl
 | .bool _,_ => rfl
 | .str _,_ => rfl
 | .nilp,_ => rfl
 | .lptr _ _ _,h => by simp [plain] at h
 | .gptr _ _,h => by simp [plain] at h
 | .ref _,h => by simp [plain] at h
 | .list c l,h => by
  simp only [plain,Bool.and_eq_true,Bool.or_eq_true,decide_eq_true_eq] at h
  obtain ⟨rfl | rfl,h⟩ := h <;> simp only [exp,Cap.exp,exps_plain n k l h]
 | .sl _ _ _ _ _,h => by simp [plain] at h
 | .agg l,h => by simp only [plain] at h; simp only [exp,exps_plain n k l h]
 | .tup l,h => by simp only [plain] at h; simp only [exp,exps_plain n k l h]
 | .fn (.func f) [] [],_ => rfl
 | .fn (.func f) (_ :: _) _,h => by simp [plain] at h
 | .fn (.func f) [] (_ :: _),h => by simp [plain] at h
 | .fn (.method _) _ _,h => by simp [plain] at h
 | .fn (.methodOf _ _) _ _,h => by simp [plain] at h
 | .fn (.via _ _ _ _) _ _,h => by simp [plain] at h
 | .fn (.yield _) _ _,h => by simp [plain] at h
 | .nilfn,_ => rfl
 | .iface t v,h => by simp only [plain] at h; simp only [exp,exp_plain n k v h]
 | .nilif,_ => rfl
 | .map _,h => by simp [plain] at h
 | .nilmap,_ => rfl
theorem exps_plain (n : Nat) (k : Bool) : ∀ l : List AV,plains l = true -> exps n k l = l
 | [],_ => rfl
 | v :: l,h => by
  simp only [plains,Bool.and_eq_true] at h
  simp only [exps,exp_plain n k v h.1,exps_plain n k l h.2]
end
mutual
theorem lo_plain (n : Nat) : ∀ v : AV,plain v = true -> lo n v = true
 | .undef,_ => rfl
 | .junk,_ => rfl
 | .int _ _,_ => rfl
 | .bool _,_ => rfl
 | .str _,_ => rfl
 | .nilp,_ => rfl
 | .lptr _ _ _,h => by simp [plain] at h
 | .gptr _ _,h => by simp [plain] at h
 | .ref _,h => by simp [plain] at h
 | .list c l,h => by
  simp only [plain,Bool.and_eq_true,Bool.or_eq_true,decide_eq_true_eq] at h
  obtain ⟨rfl | rfl,h⟩ := h <;> simp only [lo,Cap.lo,los_plain n l h,Bool.and_self]
 | .sl _ _ _ _ _,h => by simp [plain] at h
 | .agg l,h => by simp only [plain] at h; simp only [lo,los_plain n l h]
 | .tup l,h => by simp only [plain] at h; simp only [lo,los_plain n l h]
 | .fn (.func f) [] [],_ => rfl
 | .fn (.func f) (_ :: _) _,h => by simp [plain] at h
 | .fn (.func f) [] (_ :: _),h => by simp [plain] at h
 | .fn (.method _) _ _,h => by simp [plain] at h
 | .fn (.methodOf _ _) _ _,h => by simp [plain] at h
 | .fn (.via _ _ _ _) _ _,h => by simp [plain] at h
 | .fn (.yield _) _ _,h => by simp [plain] at h
 | .nilfn,_ => rfl
 | .iface t v,h => by simp only [plain] at h; simp only [lo,lo_plain n v h]
 | .nilif,_ => rfl
 | .map _,h => by simp [plain] at h
 | .nilmap,_ => rfl
theorem los_plain (n : Nat) : ∀ l : List AV,plains l = true -> los n l = true
 | [],_ => rfl
 | v :: l,h => by
  simp only [plains,Bool.and_eq_true] at h
  simp only [los,lo_plain n v h.1,los_plain n l h.2,Bool.and_self]
end
section
variable {P : Program} {base : Nat} {LC : LCR} {g : Gh} {lb : LB} {own : OW} {loc : Nat -> Option (Nat × Blk)} {mem : Mem} {w : World} {esc : Nat -> Bool} {callv : CallV}
variable {ev : Opd -> AV} {a : Act} {o : Oper} {ao : AO} {v : AV} {u : Upd} {m' : Mem}
theorem VR.plain {v : AV} {x : Value} (h : VR g lb v x) (hp : plain v = true) : VR g noLB v x := by
 have h1 := VR.exp (lb' := noLB) 0 true h
 rw [exp_plain 0 true v hp] at h1
 have hs : (g.cut 0).sub g := by
  refine ⟨fun _ _ _ h => h,fun id b hb => ?_,fun t n x hx => ?_⟩
  ·simp [Gh.cut] at hb
  ·simp [Gh.cut] at hx
 exact VR.sub hs h1
theorem key_no {kk : KK} {k : AV} {x : Value} (h : VR g lb k x) (hk : isKey kk k = true) : VR g noLB k x := by
 refine h.plain ?_
 cases kk <;> cases k <;> simp_all [isKey,Abs.plain]
theorem same_key {lb' : LB} {k k' : AV} {x x' : Value} (h : VR g lb k x) (h' : VR g lb' k' x') (he : keyEq k k' = some true) : ∀ n,Instr.sameBits n x' x = true := by
 intro n
 cases k <;> cases k' <;> simp [keyEq] at he
 ·cases h; cases h'; obtain ⟨rfl,rfl⟩ := he; cases n <;> simp [Instr.sameBits]
 ·cases h; cases h'; subst he; cases n <;> simp [Instr.sameBits]
 ·cases h; cases h'
  rename_i b1 h1 b2 h2
  subst he
  have : b2.data.toList = b1.data.toList := nats_inj (h2.trans h1.symm)
  have hb : b2 = b1 := by
   obtain ⟨⟨l1⟩⟩ := b1; obtain ⟨⟨l2⟩⟩ := b2
   simp at this; subst this; rfl
  subst hb
  have : (b2 == b2) = true := by rw [beq_toListBytes]; simp
  cases n <;> simp [Instr.sameBits,this]
theorem key_plain {kk : KK} {k : AV} (hk : isKey kk k = true) : plain k = true := by
 unfold isKey at hk
 split at hk <;> first | rfl | (cases hk; done)
theorem op_mapup (hev : EvOK g lb ev a) (hm : MemR g own LC mem w) (hl : LocR g lb own loc w) (ho : OwnR base own w) {t : TypeId} {x y z : Operand} (hop : o.op = .mapUpdate t x y z)
  (hc : copO P esc o = some ao) (hr : aop ev loc mem callv o.dst ao = some (v,u,m')) : OpOK P base LC g lb own loc w a o v u m' := by
 simp only [copO,hop] at hc
 split at hc
 ·rename_i kt et x' y' z' hu hx hy hz
  simp only [Option.map_eq_some_iff] at hc
  obtain ⟨kk,hkk,rfl⟩ := hc
  simp only [aop] at hr
  split at hr
  ·rename_i id e1
   split at hr
   ·rename_i es he
    split at hr
    ·rename_i hchk
     simp only [Bool.and_eq_true] at hchk
     obtain ⟨hkey,hpl⟩ := hchk
     simp only [Option.map_eq_some_iff,Prod.mk.injEq] at hr
     obtain ⟨es',hes',rfl,rfl,rfl⟩ := hr
     have k1 := hev _ _ hx
     rw [e1] at k1
     obtain ⟨xv,hxe⟩ : ∃ xv,a.eval x = xv := ⟨_,rfl⟩
     rw [hxe] at k1
     obtain ⟨b,ents,clock,rfl,h2,h3,h4,h5,h6,h7,h8⟩ := map_spec hm k1 he
     have hid : id < mem.blks.length := hm.dom id b h2
     obtain ⟨hck,d,hud,hsn⟩ := key_spec (P := P) (w := w) hkk hkey (hev _ _ hy) false
     have hkv := key_no (hev _ _ hy) hkey
     have hzv := (hev _ _ hz).plain hpl
     have hms := mset_spec es es' 0 hes'
     have hfn := findNow_ok hsn es ents.toList 0 (by simpa using h6.symm) (fun j h h' => by have := h7 j h (by simpa using h'); simpa using this) (by rcases hms with ⟨h,_⟩ | ⟨_,_,h,_⟩ <;> rw [h] <;> simp)
     rcases hms with ⟨f1,f2,rfl⟩ | ⟨j,v',f1,f2,f3,rfl⟩
     ·have g2 : Instr.findNow d (a.eval y) ents.toList 0 = some none := by
       rcases hfn with ⟨_,g2,_⟩ | ⟨j,v',g1,_⟩
       ·exact g2
       ·rw [f1] at g1; cases g1
      have hfk : (Instr.findKey kt (a.eval y) ents.toList).run P w = .ok none w := run_findKey' hud g2
      refine ⟨undef,setObjW w b (.map (ents.push { key := a.eval y,val := a.eval z,born := clock }) (clock + 1)),.inr ⟨?_,rfl⟩,setObj_post hm hl ho h3 hid h4 ?_⟩
      ·simp only [execOp,hop,hxe,Instr.mapUpdate,Sem.run_bind,run_underlying hu,Result.andThen_ok,run_getObj_map h5,hck,hfk,run_setObj_map h5]; rfl
      ·refine ⟨b,h2,h3,h4,_,_,setObjW_at h5 _,by simp [h6],fun i hi hi' => ?_,fun p hp => ?_⟩
       rcases Nat.lt_or_ge i es.length with hlt | hge
       ·have hlt' : i < ents.size := by omega
        simp only [List.getElem_append_left hlt,Array.getElem_push,hlt',dite_true]
        exact h7 i hlt hlt'
       ·have hi2 : i = es.length := by simp at hi; omega
        subst hi2
        have : ¬ es.length < ents.size := by omega
        simp only [List.getElem_append_right (Nat.le_refl _),Nat.sub_self,List.getElem_cons_zero,Array.getElem_push,this,dite_false]
        exact ⟨hkv,hzv⟩
       ·rcases List.mem_append.1 hp with hp | hp
        ·exact h8 p hp
        ·obtain rfl : p = _ := by simpa using hp
         exact ⟨key_plain hkey,hpl⟩
     ·obtain ⟨hj,hkj⟩ := f3
      obtain ⟨hj',hfk⟩ : ∃ hj' : j < ents.size,(Instr.findKey kt (a.eval y) ents.toList).run P w = .ok (some (j,ents[j].val)) w := by
       rcases hfn with ⟨g1,_⟩ | ⟨j2,v2,g1,g2,g3,g4,g5,g6⟩
       ·rw [f1] at g1; cases g1
       ·rw [f2] at g2
        simp only [Option.some.injEq,Prod.mk.injEq,Nat.zero_add] at g2
        obtain ⟨rfl,-⟩ := g2
        refine ⟨by simpa using g4,?_⟩
        have := run_findKey' (P := P) (w := w) hud g6
        simpa using this
      have hsame := same_key (hev _ _ hy) (h7 j hj hj').1 hkj 10000
      refine ⟨undef,setObjW w b (.map (ents.modify j fun e => { e with key := a.eval y,val := a.eval z }) clock),.inr ⟨?_,rfl⟩,setObj_post hm hl ho h3 hid h4 ?_⟩
      ·simp only [execOp,hop,hxe,Instr.mapUpdate,Sem.run_bind,run_underlying hu,Result.andThen_ok,run_getObj_map h5,hck,hfk,Array.getElem?_eq_getElem hj',Option.map_some,Option.getD_some,Instr.keyThatStays,hsame,if_true,Sem.run_pure,run_setObj_map h5]
      ·refine ⟨b,h2,h3,h4,_,_,setObjW_at h5 _,by simp [h6],fun i hi hi' => ?_,fun p hp => ?_⟩
       have hi2 : i < es.length := by simpa using hi
       have hi3 : i < ents.size := by omega
       simp only [List.getElem_set,Array.getElem_modify]
       by_cases hij : j = i
       ·subst hij; simp only [if_true]; exact ⟨hkv,hzv⟩
       ·simp only [hij,if_false]; exact h7 i hi2 hi3
       ·rcases List.mem_or_eq_of_mem_set hp with hp | rfl
        ·exact h8 p hp
        ·exact ⟨key_plain hkey,hpl⟩
    ·cases hr
   ·cases hr
  ·cases hr
 ·cases hc
theorem op_mkmap (hm : MemR g own LC mem w) (hl : LocR g lb own loc w) (ho : OwnR base own w) {t : TypeId} (hop : o.op = .makeMap t none)
  (hc : copO P esc o = some ao) (hr : aop ev loc mem callv o.dst ao = some (v,u,m')) : OpOK P base LC g lb own loc w a o v u m' := by
 simp only [copO,hop] at hc
 cases hc
 simp only [aop,Option.some.injEq,Prod.mk.injEq] at hr
 obtain ⟨rfl,rfl,rfl⟩ := hr
 let g' : Gh := { g with mb := fun id => if id = mem.blks.length then some w.heap.size else g.mb id }
 have hsub : g.sub g' := ⟨fun _ _ _ h => h,fun id b hb => by
  have := hm.dom id b hb
  simp only [g']; rw [if_neg (by omega)]; exact hb,fun _ _ _ h => h⟩
 have hst := Steps'.alloc g own w (.map #[] 0) (some (.m mem.blks.length))
 refine ⟨.map (some w.heap.size),w.alloc (.map #[] 0),.inl ?_,g',lb,_,⟨hsub,hst.size,hst.os,hst.tape,hst.output,hst.keep,hst.unown,hst.im⟩,fun _ _ _ h => h,.map _ _ _ (by simp [g']),?_,?_,ho.alloc _ _⟩
 ·simp only [execOp,hop,Option.map_none,Instr.makeMap,Sem.run_bind,run_newObj,Result.andThen_ok,Sem.run_pure]; rfl
 ·refine hm.push (hm.alloc ho _ _) _ _ (fun id b hb => ?_) (fun id hid => ?_) ?_
  ·split at hb
   ·exact .inr (by assumption)
   ·exact .inl hb
  ·exact if_neg (by omega)
  ·exact ⟨w.heap.size,by simp,by simp [ownNew],(show ∀ o,g.im w.heap.size o = none from im_new hm),#[],0,heap_alloc_at w _,rfl,fun i h => by simp at h,fun p hp => by cases hp⟩
 ·exact (hl.alloc ho _ _).keep hsub fun _ _ _ => ⟨rfl,rfl,fun _ => rfl⟩
theorem op_del (hev : EvOK g lb ev a) (hm : MemR g own LC mem w) (hl : LocR g lb own loc w) (ho : OwnR base own w) {c : Call} (hop : o.op = .call c) (hb : c.callee = .builtin .delete)
  (hc : copO P esc o = some ao) (hr : aop ev loc mem callv o.dst ao = some (v,u,m')) : OpOK P base LC g lb own loc w a o v u m' := by
 simp only [copO,hop,hb] at hc
 split at hc
 ·rename_i x y t ts hargs htys
  split at hc
  ·rename_i kt et x' y' hu hx hy
   simp only [Option.map_eq_some_iff] at hc
   obtain ⟨kk,hkk,rfl⟩ := hc
   have hargs' : (c.args.map a.eval) = #[a.eval x,a.eval y] := by
    have : (c.args.map a.eval).toList = [a.eval x,a.eval y] := by simp [hargs]
    rw [<- Array.toArray_toList (xs := c.args.map a.eval),this]
   have htys' : c.argTypes[0]? = some t := by rw [<- Array.getElem?_toList,htys]; rfl
   simp only [aop] at hr
   split at hr
   ·rename_i id e1
    split at hr
    ·rename_i es he
     split at hr
     ·rename_i hkey
      simp only [Option.map_eq_some_iff,Prod.mk.injEq] at hr
      obtain ⟨es',hes',rfl,rfl,rfl⟩ := hr
      have k1 := hev _ _ hx
      rw [e1] at k1
      obtain ⟨xv,hxe⟩ : ∃ xv,a.eval x = xv := ⟨_,rfl⟩
      rw [hxe] at k1
      obtain ⟨b,ents,clock,rfl,h2,h3,h4,h5,h6,h7,h8⟩ := map_spec hm k1 he
      have hid : id < mem.blks.length := hm.dom id b h2
      obtain ⟨hck,d,hud,hsn⟩ := key_spec (P := P) (w := w) hkk hkey (hev _ _ hy) ents.isEmpty
      have hms := mdel_spec es es' 0 hes'
      have hfn := findNow_ok hsn es ents.toList 0 (by simpa using h6.symm) (fun j h h' => by have := h7 j h (by simpa using h'); simpa using this) (by rcases hms with ⟨h,_⟩ | ⟨_,_,h,_⟩ <;> rw [h] <;> simp)
      rcases hms with ⟨f1,f2,rfl⟩ | ⟨j,v',f1,f2,hj,rfl⟩
      ·have g2 : Instr.findNow d (a.eval y) ents.toList 0 = some none := by
        rcases hfn with ⟨_,g2,_⟩ | ⟨j,v',g1,_⟩
        ·exact g2
        ·rw [f1] at g1; cases g1
       have hfk : (Instr.findKey kt (a.eval y) ents.toList).run P w = .ok none w := run_findKey' hud g2
       refine ⟨undef,setObjW w b (.map ents clock),.inl ?_,setObj_post hm hl ho h3 hid h4 ⟨b,h2,h3,h4,_,_,setObjW_at h5 _,h6,h7,h8⟩⟩
       simp only [execOp,hop,resolve,hb,hargs',Sem.run_bind,Sem.run_pure,Result.andThen_ok,invoke,builtin,Builtin.delete_,htys',hxe]
       simp [run_underlying hu,run_getObj_map h5,hck,hfk,run_setObj_map h5,undef]
      ·obtain ⟨hj',hfk⟩ : ∃ hj' : j < ents.size,(Instr.findKey kt (a.eval y) ents.toList).run P w = .ok (some (j,ents[j].val)) w := by
        rcases hfn with ⟨g1,_⟩ | ⟨j2,v2,g1,g2,g3,g4,g5,g6⟩
        ·rw [f1] at g1; cases g1
        ·rw [f2] at g2
         simp only [Option.some.injEq,Prod.mk.injEq,Nat.zero_add] at g2
         obtain ⟨rfl,-⟩ := g2
         refine ⟨by simpa using g4,?_⟩
         have := run_findKey' (P := P) (w := w) hud g6
         simpa using this
       refine ⟨undef,setObjW w b (.map (ents.eraseIdxIfInBounds j) clock),.inl ?_,setObj_post hm hl ho h3 hid h4 ⟨b,h2,h3,h4,_,_,setObjW_at h5 _,?_,fun i hi hi' => ?_,fun p hp => h8 p (List.mem_of_mem_eraseIdx hp)⟩⟩
       ·simp only [execOp,hop,resolve,hb,hargs',Sem.run_bind,Sem.run_pure,Result.andThen_ok,invoke,builtin,Builtin.delete_,htys',hxe]
        simp [run_underlying hu,run_getObj_map h5,hck,hfk,run_setObj_map h5,undef]
       ·have e1 : (ents.eraseIdxIfInBounds j).size = ents.size - 1 := by simp [Array.eraseIdxIfInBounds,hj']
        rw [e1,List.length_eraseIdx_of_lt hj,h6]
       ·have e1 : (ents.eraseIdxIfInBounds j) = ents.eraseIdx j hj' := by simp [Array.eraseIdxIfInBounds,hj']
        have hi2 : i < es.length - 1 := by rw [List.length_eraseIdx_of_lt hj] at hi; exact hi
        simp only [e1,List.getElem_eraseIdx,Array.getElem_eraseIdx]
        by_cases hij : i < j
        ·simp only [hij,dite_true]; exact h7 i (by omega) (by omega)
        ·simp only [hij,dite_false]; exact h7 (i + 1) (by omega) (by omega)
     ·cases hr
    ·cases hr
   ·cases hr
  ·cases hc
 ·cases hc
theorem op_rng (hev : EvOK g lb ev a) (hm : MemR g own LC mem w) (hl : LocR g lb own loc w) (ho : OwnR base own w) {t : TypeId} {x : Operand} (hop : o.op = .range t x)
  (hc : copO P esc o = some ao) (hr : aop ev loc mem callv o.dst ao = some (v,u,m')) : OpOK P base LC g lb own loc w a o v u m' := by
 simp only [copO,hop] at hc
 split at hc
 ·rename_i x' hu hx
  cases hc
  simp only [aop] at hr
  split at hr
  ·rename_i s d e1 e2
   simp only [Option.some.injEq,Prod.mk.injEq] at hr
   obtain ⟨rfl,rfl,rfl⟩ := hr
   have k1 := hev _ _ hx
   rw [e1] at k1
   obtain ⟨xv,hxe⟩ : ∃ xv,a.eval x = xv := ⟨_,rfl⟩
   rw [hxe] at k1
   cases k1 with
   | str _ bs _ hbs =>
    refine ⟨.pointer (some ⟨w.heap.size,0,none⟩),w.alloc (.stringIter bs 0),.inl ?_,g,lbNew lb d (newVer loc d) w.heap.size,_,.alloc g own w _ (some (.l d)),lbNew_sub hl d _,.lptr _ _ _ _ _ (by simp [lbNew]),hm.alloc ho _ _,?_,ho.alloc _ _⟩
    ·simp only [execOp,hop,hxe,Instr.range,Sem.run_bind,run_underlying hu,Result.andThen_ok,Sem.run_pure,run_newObj]; rfl
    ·refine hl.new ho d _ _ (fun l' hl' => by cases hl') (fun s' pos h => ?_)
     cases h
     exact ⟨im_new hm,bs,rfl,hbs⟩
  ·cases hr
 ·cases hc
theorem run_getObj_iter {b : Nat} {bs : ByteArray} {pos : Nat} (h : w.heap[b]? = some (.stringIter bs pos)) : (getObj b).run P w = .ok (.stringIter bs pos) w := by
 simp only [getObj,Sem.run,h]
theorem run_setObj_iter {b : Nat} {bs : ByteArray} {pos : Nat} (h : w.heap[b]? = some (.stringIter bs pos)) (x : Obj) : (setObj b x).run P w = .ok () (setObjW w b x) := by
 simp only [setObj,Sem.run,h]; rfl
theorem bytes_of {bs : ByteArray} {s : List Nat} (h : bs.data.toList.map UInt8.toNat = s) : (⟨(s.map UInt8.ofNat).toArray⟩ : ByteArray) = bs := by
 subst h
 obtain ⟨⟨l⟩⟩ := bs
 simp [List.map_map,Function.comp_def]
theorem op_nxt (hev : EvOK g lb ev a) (hm : MemR g own LC mem w) (hl : LocR g lb own loc w) (ho : OwnR base own w) {x : Operand} (hop : o.op = .next x true)
  (hc : copO P esc o = some ao) (hr : aop ev loc mem callv o.dst ao = some (v,u,m')) : OpOK P base LC g lb own loc w a o v u m' := by
 simp only [copO,hop,Option.map_eq_some_iff] at hc
 obtain ⟨x',hx,rfl⟩ := hc
 simp only [aop] at hr
 split at hr
 ·rename_i d ver e1
  split at hr
  ·rename_i v' s pos hd
   split at hr
   ·rename_i hv
    subst hv
    have k1 := hev _ _ hx
    rw [e1] at k1
    obtain ⟨xv,hxe⟩ : ∃ xv,a.eval x = xv := ⟨_,rfl⟩
    rw [hxe] at k1
    cases k1 with
    | lptr _ _ _ _ b hb =>
     obtain ⟨b',hb',hob,him,bs,hbs,hs⟩ := hl.iter d _ s pos hd
     rw [hb] at hb'; cases hb'
     have hlen := str_len hs
     split at hr
     ·rename_i hpos
      simp only [Option.some.injEq,Prod.mk.injEq,bytes_of hs] at hr
      obtain ⟨rfl,rfl,rfl⟩ := hr
      have hother : ∀ b',b' ≠ b -> (setObjW w b (.stringIter bs (pos + (Utf8.decode bs pos).2))).heap[b']? = w.heap[b']? := fun b' hne => by
       simp only [setObjW]; rw [Array.getElem?_setIfInBounds_ne (Ne.symm hne)]
      refine ⟨.tuple #[.bool true,.int .i64 pos,.int .i32 (Utf8.decode bs pos).1],setObjW w b (.stringIter bs (pos + (Utf8.decode bs pos).2)),.inl ?_,g,lb,own,
       ⟨g.sub_refl,by simp [setObjW],rfl,rfl,rfl,fun b' _ ho => hother b' (by rintro rfl; rw [hob] at ho; cases ho),fun _ _ h => h,fun _ _ _ _ => rfl⟩,fun _ _ _ h => h,?_,?_,?_,?_⟩
      ·simp only [execOp,hop,hxe,Instr.next,Sem.run_bind,run_getObj_iter hbs,Result.andThen_ok]
       rw [if_pos (by rw [hlen]; exact hpos)]
       simp only [Sem.run_bind,run_setObj_iter hbs,Result.andThen_ok,Sem.run_pure]; rfl
      ·refine .tup _ _ _ rfl fun i hi hi' => ?_
       match i,hi with
       | 0,_ => exact .bool _ _
       | 1,_ => exact .int _ _ _
       | 2,_ => exact .int _ _ _
      ·refine hm.keep g.sub_refl (fun _ h => h) (fun _ _ h => h) (fun id b' hb' => ⟨rfl,hother b' ?_,fun _ => rfl⟩) (fun b' o y hy => ?_)
       ·rintro rfl; rw [hob] at hb'; cases hb'
       ·have hne : b' ≠ b := by rintro rfl; rw [him] at hy; cases hy
        rw [cell?_of_heap (hother b' hne)]; exact hm.im _ _ _ hy
      ·have hat : (setObjW w b (.stringIter bs (pos + (Utf8.decode bs pos).2))).heap[b]? = some (.stringIter bs (pos + (Utf8.decode bs pos).2)) := setObjW_at hbs _
       refine ⟨fun d' i l' hd' => ?_,fun d' i s' pos' hd' => ?_,fun d' i b' hb' => ?_⟩
       ·simp only [updF] at hd'
        split at hd'
        ·cases hd'
        ·rename_i hdd
         obtain ⟨b2,q1,q2⟩ := hl.cells d' i l' hd'
         have hne : b2 ≠ b := by rintro rfl; have := q2.1; rw [hob] at this; cases this; exact hdd rfl
         exact ⟨b2,q1,q2.keep g.sub_refl (fun _ _ _ h => h) rfl (hother b2 hne) fun _ => rfl⟩
       ·simp only [updF] at hd'
        split at hd'
        ·rename_i hdd; subst hdd; cases hd'
         exact ⟨b,hb,hob,him,bs,hat,hs⟩
        ·rename_i hdd
         obtain ⟨b2,q1,q2,q3,bs2,q4,q5⟩ := hl.iter d' i s' pos' hd'
         have hne : b2 ≠ b := by rintro rfl; rw [hob] at q2; cases q2; exact hdd rfl
         exact ⟨b2,q1,q2,q3,bs2,(hother b2 hne).trans q4,q5⟩
       ·obtain ⟨v2,blk2,q1,q2⟩ := hl.ver d' i b' hb'
        by_cases hdd : d = d'
        ·subst hdd
         rw [hd] at q1; cases q1
         exact ⟨_,.iter s (pos + (Utf8.decode bs pos).2),by simp [updF],q2⟩
        ·exact ⟨v2,blk2,by simp [updF,hdd,q1],q2⟩
      ·exact ⟨fun b' o hb' => by simpa [setObjW] using ho.ge b' o hb',by simpa [setObjW] using ho.base⟩
     ·rename_i hpos
      simp only [Option.some.injEq,Prod.mk.injEq] at hr
      obtain ⟨rfl,rfl,rfl⟩ := hr
      refine .pure hm hl ho (x := .tuple #[.bool false]) ?_ (.tup _ _ _ rfl fun i hi hi' => by
       match i,hi with
       | 0,_ => exact .bool _ _)
      simp only [execOp,hop,hxe,Instr.next,Sem.run_bind,run_getObj_iter hbs,Result.andThen_ok]
      rw [if_neg (by rw [hlen]; exact hpos)]
      rfl
   ·cases hr
  ·cases hr
 ·cases hr
end
end Go.Abs
