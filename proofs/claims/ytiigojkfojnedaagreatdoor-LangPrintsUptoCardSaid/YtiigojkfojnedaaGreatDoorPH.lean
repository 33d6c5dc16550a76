/- A text of this proof. -/
import Derived.Test.YtiigojkfojnedaaGreatDoorPF
set_option linter.unusedVariables false
set_option linter.unusedSimpArgs false
namespace Go.Abs
section
variable {P : Program} {base : Nat} {LC : LCR} {g g' : Gh} {lb lb' : LB} {own own' : OW} {loc : Nat -> Option (Nat × Blk)} {mem : Mem} {w w' : World}
def Gh.grow (g : Gh) (t k b cap : Nat) : Gh := { g with rows := fun t' k' => if t' = t /\ k' = k then some (b,cap) else g.rows t' k' }
theorem grow_sub {t k b cap : Nat} (h : g.rows t k = none) : g.sub (g.grow t k b cap) :=
 ⟨fun _ _ _ h => h,fun _ _ h => h,fun t' k' x hx => (by
  simp only [Gh.grow]; rw [if_neg]
  ·exact hx
  ·rintro ⟨rfl,rfl⟩; rw [h] at hx; cases hx)⟩
theorem grow_post (hm : MemR g own LC mem w) (hl : LocR g lb own loc w) (ho : OwnR base own w) {t n sz cap : Nat} {e : TypeId} {l : List AV} {vs : List Value} {rest : Array Value} {m' : Mem}
  (hf : FR g noLB sz l vs) (hn : l.length = n) (h0 : 0 < sz) (hcap : n <= cap) (hrest : rest.size = (cap - n) * sz) (hrows : ∀ m x,g.rows t m = some x -> m < n) (hmb : g.mb t = none)
  (hm' : (t = mem.blks.length /\ m' = mem.push (.front n sz e)) \/ (t < mem.blks.length /\ m' = mem.put t (.front n sz e) true)) :
  Post base LC g lb own loc w (.list (.own t) l) none m' (.slice (some ⟨w.heap.size,0,none⟩) n cap) (w.drew.alloc (.cells (vs.toArray ++ rest) e)) := by
 refine Post.drew ?_
 have hmd := hm.drew
 have hld := hl.drew
 have hod := ho.drew
 have hsz : w.heap.size = w.drew.heap.size := rfl
 rw [hsz]
 generalize w.drew = w at *
 clear hm hl ho
 have hin := im_new hmd
 have hrn : g.rows t n = none := by
  cases hx : g.rows t n with
  | none => rfl
  | some x => have := hrows n x hx; omega
 let o := Obj.cells (vs.toArray ++ rest) e
 let g1 := g.row w.heap.size vs
 let g' := g1.grow t n w.heap.size cap
 have hs1 : g.sub g1 := row_sub hin
 have hsub : g.sub g' := Gh.sub_trans hs1 (grow_sub (by exact hrn))
 have hst := Steps'.alloc g own w o (some (.m t))
 have hoim : ∀ b o',own b = some o' -> ∀ q,g'.im b q = g.im b q := fun b o' hb q => by simp [g',g1,Gh.grow,Gh.row,own_lt hod hb]
 have hlen : vs.length = n * sz := by rw [<- hn]; exact hf.1
 have hkeep : ∀ id b,own b = some (.m id) -> ownNew own w.heap.size (some (.m t)) b = own b /\ (w.alloc o).heap[b]? = w.heap[b]? /\ ∀ q,g'.im b q = g.im b q :=
  fun id b hb => ⟨by simp [ownNew,own_lt hod hb],heap_alloc_lt w o (hod.ge b _ hb).2,hoim b _ hb⟩
 have him : ∀ b q x,g'.im b q = some x -> (w.alloc o).cell? ⟨b,q,none⟩ = some x := by
  intro b q x hx
  have hx' : (if b = w.heap.size then vs[q]? else g.im b q) = some x := hx
  split at hx'
  ·rename_i hbe; subst hbe
   simp only [World.cell?,o,heap_alloc_at]
   have hq : q < vs.length := (List.getElem?_eq_some_iff.1 hx').1
   rw [Array.getElem?_append_left (by simpa using hq)]
   simpa using hx'
  ·have := hmd.im b q x hx'
   rw [cell?_of_heap (heap_alloc_lt w o (cell_lt this))]; exact this
 have hblk : BlkR g' (ownNew own w.heap.size (some (.m t))) LC (w.alloc o) t (.front n sz e) := by
  refine ⟨h0,w.heap.size,cap,by simp [g',Gh.grow],hcap,by simp [ownNew],⟨_,heap_alloc_at w o,?_⟩,fun q hq => ?_,fun m x hx => ?_,hmb⟩
  ·simp only [Array.size_append,List.size_toArray,hlen,hrest,<- Nat.add_mul]
   congr 1; omega
  ·show (if w.heap.size = w.heap.size then vs[q]? else _) = none
   rw [if_pos rfl,List.getElem?_eq_none (by omega)]
  ·simp only [g',Gh.grow] at hx
   split at hx
   ·rename_i h; omega
   ·exact Nat.le_of_lt (hrows m x hx)
 refine ⟨g',lb,ownNew own w.heap.size (some (.m t)),⟨hsub,hst.size,hst.os,hst.tape,hst.output,hst.keep,hst.unown,fun b hb _ q => ?_⟩,fun _ _ _ h => h,?_,?_,?_,hod.alloc _ _⟩
 ·simp only [g',g1,Gh.grow,Gh.row]; rw [if_neg (by omega)]
 ·refine VR.ofFlat (hf.mono hsub (fun _ _ _ h => by cases h)) hn hcap ⟨rfl,by simp [g',Gh.grow]⟩ (fun q v hq => ?_)
  show (if w.heap.size = w.heap.size then vs[0 + q]? else _) = some v
  rw [if_pos rfl,Nat.zero_add]; exact hq
 ·rcases hm' with ⟨ht,rfl⟩ | ⟨ht,rfl⟩
  ·have hk : MemR g own LC mem w := hmd
   refine ⟨fun id b hb => ?_,fun t' k x hx => ?_,fun id blk hid => ?_,him⟩
   ·have := hmd.dom id b hb
    simp only [Mem.push,List.length_append,List.length_cons,List.length_nil]; omega
   ·simp only [Mem.push,List.length_append,List.length_cons,List.length_nil]
    simp only [g',g1,Gh.grow,Gh.row] at hx
    split at hx
    ·omega
    ·have := hmd.rdom t' k x hx; omega
   ·simp only [Mem.push] at hid
    rcases Nat.lt_or_ge id mem.blks.length with hlt | hge
    ·rw [List.getElem?_append_left hlt] at hid
     refine (hmd.blk id blk hid).keep hsub (hkeep id) (fun k hk => ?_) (fun h => h)
     simp only [g',g1,Gh.grow,Gh.row]; rw [if_neg (by omega)]; exact hk
    ·rw [List.getElem?_append_right hge] at hid
     have : id = mem.blks.length := by
      rcases Nat.lt_or_ge 0 (id - mem.blks.length) with h0 | h0
      ·rw [List.getElem?_eq_none (by simp; omega)] at hid; cases hid
      ·omega
     subst this
     simp at hid; subst hid
     rw [<- ht]; exact hblk
  ·refine hmd.upd ht hsub (fun _ h => h) (fun t' k hne hk => ?_) (fun id b _ hb => hkeep id b hb) hblk him
   simp only [g',g1,Gh.grow,Gh.row]; rw [if_neg (by omega)]; exact hk
 ·exact (hld.alloc hod o (some (.m t))).keep hsub fun d b hb => ⟨rfl,rfl,by
   have hb' : own b = some (.l d) := by
    simp only [ownNew] at hb; split at hb
    ·cases hb
    ·exact hb
   exact hoim b _ hb'⟩
theorem room_post (hm : MemR g own LC mem w) (hl : LocR g lb own loc w) (ho : OwnR base own w) {t n k sz cap b : Nat} {e : TypeId} {l m : List AV} {vs us : List Value} {cur : Array Value}
  (hf : FR g noLB sz l vs) (hk : FR g noLB sz m us) (hn : l.length = n) (hkl : m.length = k) (hk0 : 0 < k) (hroom : n + k <= cap) (hblk : mem.blks[t]? = some (.front n sz e)) (hrow : g.rows t n = some (b,cap))
  (him0 : ∀ q v,vs[q]? = some v -> g.im b q = some v) (hcur : w.heap[b]? = some (.cells cur e (0,0))) :
  n * sz + us.length <= cur.size /\ Post base LC g lb own loc w (.list (.own t) (l ++ m)) none (mem.put t (.front (n + k) sz e) true) (.slice (some ⟨b,0,none⟩) (n + k) cap) (w.setRow b (arr cur (n * sz) us)) := by
 obtain ⟨h0,b',cap',h1,h2,h3,⟨a,h4,h5⟩,h6,h7,h8⟩ := hm.blk t _ hblk
 rw [hrow] at h1; cases h1
 rw [hcur] at h4; cases h4
 have hul : us.length = k * sz := by rw [<- hkl]; exact hk.1
 have hvl : vs.length = n * sz := by rw [<- hn]; exact hf.1
 have hfit : n * sz + us.length <= cur.size := by
  rw [hul,h5,<- Nat.add_mul]; exact Nat.mul_le_mul_right _ hroom
 refine ⟨hfit,?_⟩
 have htl : t < mem.blks.length := (List.getElem?_eq_some_iff.1 hblk).1
 have hrn : g.rows t (n + k) = none := by
  cases hx : g.rows t (n + k) with
  | none => rfl
  | some x => have := h7 _ x hx; omega
 let g1 : Gh := { g with im := fun b' q => if b' = b then (if n * sz <= q /\ q < n * sz + us.length then us[q - n * sz]? else g.im b q) else g.im b' q }
 let g' := g1.grow t (n + k) b cap
 have hs1 : g.sub g1 := ⟨fun b' q x hx => (by
  simp only [g1]
  split
  ·rename_i hbe; subst hbe
   rw [if_neg]
   ·exact hx
   ·rintro ⟨hq,_⟩; rw [h6 q hq] at hx; cases hx
  ·exact hx),fun _ _ h => h,fun _ _ _ h => h⟩
 have hsub : g.sub g' := Gh.sub_trans hs1 (grow_sub (by exact hrn))
 have hst := Steps'.setRow g w (arr cur (n * sz) us) h3
 have hother : ∀ b' ,b' ≠ b -> ∀ q,g'.im b' q = g.im b' q := fun b' hne q => by simp [g',g1,Gh.grow,hne]
 have hasz : (arr cur (n * sz) us).size = cur.size := by simp [arr]; omega
 have him : ∀ b' q x,g'.im b' q = some x -> (w.setRow b (arr cur (n * sz) us)).cell? ⟨b',q,none⟩ = some x := by
  intro b' q x hx
  by_cases hbe : b' = b
  ·subst hbe
   simp only [World.cell?,setRow_heap w b' cur _ e _ hcur]
   have hx' : (if n * sz <= q /\ q < n * sz + us.length then us[q - n * sz]? else g.im b' q) = some x := by simpa [g',g1,Gh.grow] using hx
   simp only [Option.isSome_none,Bool.false_eq_true,if_false]
   split at hx'
   ·rename_i hq
    have : (arr cur (n * sz) us)[q]? = us[q - n * sz]? := by
     have hmin : min (n * sz) cur.size = n * sz := by omega
     simp only [arr,List.getElem?_toArray]
     rw [List.append_assoc,List.getElem?_append_right (by simp; omega),List.getElem?_append_left (by simp; omega)]
     simp [hmin]
    rw [this]; exact hx'
   ·rename_i hq
    have hq' : q < n * sz := by
     rcases Nat.lt_or_ge q (n * sz) with h | h
     ·exact h
     ·rw [h6 q h] at hx'; cases hx'
    have hold := hm.im _ _ _ hx'
    simp only [World.cell?,hcur,Option.isSome_none,Bool.false_eq_true,if_false] at hold
    have : (arr cur (n * sz) us)[q]? = cur[q]? := by
     simp only [arr,List.getElem?_toArray]
     rw [List.append_assoc,List.getElem?_append_left (by simp; omega)]
     simp [hq']
    rw [this]; exact hold
  ·rw [hother b' hbe] at hx
   rw [cell?_of_heap (Go.setRow_other w b b' _ hbe)]
   exact hm.im _ _ _ hx
 refine ⟨g',lb,own,⟨hsub,hst.size,hst.os,hst.tape,hst.output,hst.keep,hst.unown,fun b' _ hbo q => hother b' (by rintro rfl; rw [h3] at hbo; cases hbo) q⟩,fun _ _ _ h => h,?_,?_,?_,ho.setRow _ _⟩
 ·refine VR.ofFlat (sz := sz) ((hf.append hk).mono hsub (fun _ _ _ h => by cases h)) (by simp [hn,hkl]) hroom ⟨rfl,by simp [g',Gh.grow]⟩ (fun q v hq => ?_)
  rw [Nat.zero_add]
  show (if b = b then _ else _) = some v
  rw [if_pos rfl]
  rcases Nat.lt_or_ge q vs.length with hlt | hge
  ·rw [List.getElem?_append_left hlt] at hq
   rw [if_neg (by omega)]; exact him0 q v hq
  ·rw [List.getElem?_append_right hge] at hq
   have hql : q - vs.length < us.length := (List.getElem?_eq_some_iff.1 hq).1
   rw [if_pos (by omega),<- hvl]; exact hq
 ·refine hm.upd htl hsub (fun _ h => h) (fun t' k' hne hk' => ?_) (fun id b' hne hb' => ?_) ?_ him
  ·simp only [g',g1,Gh.grow]; rw [if_neg (by omega)]; exact hk'
  ·have hbb : b' ≠ b := by rintro rfl; rw [h3] at hb'; cases hb'; exact hne rfl
   exact ⟨rfl,Go.setRow_other w b b' _ hbb,hother b' hbb⟩
  ·refine ⟨h0,b,cap,by simp [g',Gh.grow],hroom,h3,⟨_,setRow_heap w b cur _ e _ hcur,by rw [hasz]; exact h5⟩,fun q hq => ?_,fun m' x hx => ?_,h8⟩
   ·show (if b = b then _ else _) = none
    rw [Nat.add_mul] at hq
    rw [if_pos rfl,if_neg (by omega)]
    exact h6 q (by omega)
   ·simp only [g',g1,Gh.grow] at hx
    split at hx
    ·rename_i h; omega
    ·have := h7 m' x hx; omega
 ·exact hl.keep hsub fun d b' hb' => by
   have hbb : b' ≠ b := by rintro rfl; rw [h3] at hb'; cases hb'
   exact ⟨rfl,Go.setRow_other w b b' _ hbb,hother b' hbb⟩
theorem shaped_cells {ag : Bool} {sz : Nat} {v : AV} (h : shaped ag sz v = true) : v.cells.length = sz := by
 cases v <;> simp_all [shaped,AV.cells,AV.one]
set_option maxHeartbeats 2000000 in
theorem app_spec (hm : MemR g own LC mem w) (hl : LocR g lb own loc w) (ho : OwnR base own w) {x y : AV} {xv yv : Value} (hx : VR g lb x xv) (hy : VR g lb y yv)
  {t ty e : TypeId} {i : TypeInfo} {z : Value} (ht : P.underlying t = some (.slice e)) (hi : P.info? e = some i) (hz : i.zero = some z) (hzs : z.cells.size = i.size)
  {ag : Bool} {v : AV} {m' : Mem} (hr : aApp mem ag i.size i.bytes e x y = some (v,m')) :
  ∃ (xr : Value) (w' : World),(Builtin.append_ #[t,t] ty #[xv,yv]).run P w = .ok xr w' /\ Post base LC g lb own loc w v none m' xr w' := by
 unfold aApp at hr
 split at hr
 ·rename_i c l c' m
  split at hr
  ·rename_i hchk
   simp only [Bool.and_eq_true,List.all_eq_true,decide_eq_true_eq] at hchk
   obtain ⟨⟨⟨⟨hms,hls⟩,h0⟩,hbytes⟩,hlen⟩ := hchk
   have hms' : ∀ e ∈ m,e.cells.length = i.size := fun e he => shaped_cells (hms e he)
   have hls' : ∀ e ∈ l,e.cells.length = i.size := fun e he => shaped_cells (hls e he)
   by_cases hme : m = []
   ·subst hme
    have hv : v = .list c l /\ m' = mem := by
     cases c <;> simp only [Option.some.injEq,Prod.mk.injEq] at hr <;> exact ⟨hr.1.symm,hr.2.symm⟩
    obtain ⟨rfl,rfl⟩ := hv
    refine ⟨xv,w,?_,Post.pure hm hl ho hx⟩
    have hyv : ∃ a cp,yv = .slice a 0 cp := by
     cases hy with
     | listNil => exact ⟨_,_,rfl⟩
     | listE => exact ⟨_,_,rfl⟩
     | list _ _ _ b o sz n cap xs hn => simp at hn; subst hn; exact ⟨_,_,rfl⟩
    obtain ⟨a,cp,rfl⟩ := hyv
    have hxv : ∃ a n cp,xv = .slice a n cp /\ n <= cp := by
     cases hx with
     | listNil => exact ⟨_,_,_,rfl,Nat.le_refl _⟩
     | listE => exact ⟨_,_,_,rfl,Nat.zero_le _⟩
     | list _ _ _ b o sz n cap xs hn hcap => exact ⟨_,_,_,rfl,hcap⟩
    obtain ⟨a',n,cp',rfl,hle⟩ := hxv
    cases a <;> cases a' <;> simp [Builtin.append_,run_underlying ht,sizeOf,typeInfo,hi,Builtin.lenOf,Builtin.firstCells,loadCells,loadCellsFrom,hle,storeCells]
   ·have hmpos : 0 < m.length := by cases m with | nil => exact absurd rfl hme | cons => simp
    obtain ⟨yb,yo,ycap,us,rfl,-,-,hfu,hiu⟩ := hy.flat hms' hme
    have hnews : ∀ j u,us[j]? = some u -> w.cell? ((⟨yb,yo,none⟩ : Addr).add j) = some u := fun j u hj => by
     rw [Addr.add_mid]; exact hm.im _ _ _ (hiu j u hj)
    have hfu' := hfu.nol hm
    have hlen63 : ((l.length + m.length : Nat) : Int) <= 9223372036854775807 := by omega
    cases c with
    | any =>
     cases m with
     | nil => exact absurd rfl hme
     | cons => cases hr
    | full =>
     have hr' : v = .list (.own mem.blks.length) (l ++ m.map mem.nol) /\ m' = mem.push (.front (l.length + m.length) i.size e) := by
      cases m with
      | nil => exact absurd rfl hme
      | cons => simp only [Option.some.injEq,Prod.mk.injEq] at hr; exact ⟨hr.1.symm,hr.2.symm⟩
     obtain ⟨rfl,rfl⟩ := hr'
     have hrows : ∀ k x,g.rows mem.blks.length k = some x -> k < l.length + m.length := fun k x hx => absurd (hm.rdom _ _ _ hx) (Nat.lt_irrefl _)
     have hmb : g.mb mem.blks.length = none := by
      cases hx : g.mb mem.blks.length with
      | none => rfl
      | some b => exact absurd (hm.dom _ _ hx) (Nat.lt_irrefl _)
     by_cases hle : l = []
     ·subst hle
      have hxv : (xv = .slice none 0 0) \/ (∃ ad,xv = .slice (some ad) 0 0) := by
       cases hx with
       | listE _ _ ad cap hc =>
        rcases hc with hc | ⟨_,hc⟩
        ·cases hc
        ·exact .inr ⟨ad,by rw [hc]⟩
       | list _ _ _ b o sz n cap xs hn hcap hc => simp at hn; subst hn; exact .inr ⟨⟨b,o,none⟩,by simp only [capOK] at hc; subst hc; rfl⟩
      simp only [List.length_nil,Nat.zero_add,List.nil_append] at hbytes hlen63 hrows ⊢
      rcases hxv with rfl | ⟨ad,rfl⟩
      ·refine ⟨_,_,run_append_nil (P := P) w t ty e i z ht hi hz ⟨yb,yo,none⟩ m.length ycap us hfu.1 hnews hmpos hlen63 (by omega),?_⟩
       have := grow_post (m' := mem.push (.front m.length i.size e)) hm hl ho (rest := Builtin.zeroCells z.cells (grownCap w m.length 0 e - m.length)) hfu' (by simp) h0 (grownCap_ge w m.length 0 e) (by rw [size_zeroCells,hzs]) hrows hmb (.inl ⟨rfl,rfl⟩)
       exact this
      ·have hg := run_append_grow (P := P) w t ty e i z ht hi hz ad 0 0 [] (by simp) (by simp) ⟨yb,yo,none⟩ m.length ycap us hfu.1 hnews (by omega) (by omega) (growslice_fits (by omega) (by simpa using hbytes))
       refine ⟨_,_,hg,?_⟩
       simp only [Nat.zero_add]
       have := grow_post (m' := mem.push (.front m.length i.size e)) hm hl ho (rest := Builtin.zeroCells z.cells (grownCap w m.length 0 e - m.length)) hfu' (by simp) h0 (grownCap_ge w m.length 0 e) (by rw [size_zeroCells,hzs]) hrows hmb (.inl ⟨rfl,rfl⟩)
       simpa using this
     ·obtain ⟨b,o,cap,vs,rfl,-,hc,hfl,hil⟩ := hx.flat hls' hle
      simp only [capOK] at hc; subst hc
      have holds : ∀ j u,vs[j]? = some u -> w.cell? ((⟨b,o,none⟩ : Addr).add j) = some u := fun j u hj => by
       rw [Addr.add_mid]; exact hm.im _ _ _ (hil j u hj)
      have hg := run_append_grow (P := P) w t ty e i z ht hi hz ⟨b,o,none⟩ l.length l.length vs hfl.1 holds ⟨yb,yo,none⟩ m.length ycap us hfu.1 hnews (by omega) hlen63 (growslice_fits (by omega) hbytes)
      refine ⟨_,_,hg,?_⟩
      have := grow_post (m' := mem.push (.front (l.length + m.length) i.size e)) hm hl ho (rest := Builtin.zeroCells z.cells (grownCap w (l.length + m.length) l.length e - (l.length + m.length))) (hfl.append hfu') (by simp) h0 (grownCap_ge w _ _ e) (by rw [size_zeroCells,hzs]) hrows hmb (.inl ⟨rfl,rfl⟩)
      simpa using this
    | nil =>
     have hr' : v = .list (.own mem.blks.length) (l ++ m.map mem.nol) /\ m' = mem.push (.front (l.length + m.length) i.size e) := by
      cases m with
      | nil => exact absurd rfl hme
      | cons => simp only [Option.some.injEq,Prod.mk.injEq] at hr; exact ⟨hr.1.symm,hr.2.symm⟩
     obtain ⟨rfl,rfl⟩ := hr'
     have hrows : ∀ k x,g.rows mem.blks.length k = some x -> k < l.length + m.length := fun k x hx => absurd (hm.rdom _ _ _ hx) (Nat.lt_irrefl _)
     have hmb : g.mb mem.blks.length = none := by
      cases hx : g.mb mem.blks.length with
      | none => rfl
      | some b => exact absurd (hm.dom _ _ hx) (Nat.lt_irrefl _)
     obtain ⟨rfl,rfl⟩ : l = [] /\ xv = .slice none 0 0 := by
      cases hx with
      | listNil => exact ⟨rfl,rfl⟩
      | listE _ _ a cap hc => rcases hc with hc | ⟨hc,_⟩ <;> cases hc
      | list _ _ _ b o sz n cap xs hn hcap hc => exact hc.elim
     simp only [List.length_nil,Nat.zero_add,List.nil_append] at hbytes hlen63 hrows ⊢
     refine ⟨_,_,run_append_nil (P := P) w t ty e i z ht hi hz ⟨yb,yo,none⟩ m.length ycap us hfu.1 hnews hmpos hlen63 (by omega),?_⟩
     exact grow_post (m' := mem.push (.front m.length i.size e)) hm hl ho (rest := Builtin.zeroCells z.cells (grownCap w m.length 0 e - m.length)) hfu' (by simp) h0 (grownCap_ge w m.length 0 e) (by rw [size_zeroCells,hzs]) hrows hmb (.inl ⟨rfl,rfl⟩)
    | own tg =>
     have hr' : mem.blks[tg]? = some (.front l.length i.size e) /\ v = .list (.own tg) (l ++ m.map mem.nol) /\ m' = mem.put tg (.front (l.length + m.length) i.size e) true := by
      cases m with
      | nil => exact absurd rfl hme
      | cons a m =>
       simp only [] at hr
       split at hr
       ·rename_i hblk
        split at hr
        ·rename_i hc
         obtain ⟨rfl,rfl,rfl⟩ := hc
         simp only [Option.some.injEq,Prod.mk.injEq] at hr
         exact ⟨hblk,hr.1.symm,hr.2.symm⟩
        ·cases hr
       ·cases hr
     obtain ⟨hblk,rfl,rfl⟩ := hr'
     have htl : tg < mem.blks.length := (List.getElem?_eq_some_iff.1 hblk).1
     obtain ⟨-,b1,cap1,hrow1,hcap1,hown1,⟨cur,hcur,hcsz⟩,him1,hlast,hmb⟩ := hm.blk tg _ hblk
     by_cases hle : l = []
     ·subst hle
      cases hx with
      | listE _ _ a cap hc => rcases hc with hc | ⟨hc,_⟩ <;> cases hc
      | list _ _ _ b o sz n cap xs hn hcap hc =>
       simp at hn; subst hn
       obtain ⟨rfl,hrow⟩ := hc
       simp only [List.length_nil] at hrow1
       rw [hrow] at hrow1
       simp only [Option.some.injEq,Prod.mk.injEq] at hrow1
       obtain ⟨rfl,rfl⟩ := hrow1
       simp only [List.length_nil,Nat.zero_add,List.nil_append] at hbytes hlen63 hlast hblk hcap1 ⊢
       by_cases hroom : m.length <= cap
       ·obtain ⟨hfit,hpost⟩ := room_post hm hl ho (FR.nil i.size) hfu' (by simp) (by simp) hmpos (by omega) hblk hrow (by simp) hcur
        simp only [Nat.zero_mul,Nat.zero_add,List.nil_append] at hfit hpost
        have hg := run_append_room (P := P) w t ty e i ht hi b 0 cap cur hcur ⟨yb,yo,none⟩ m.length ycap us hfu.1 hnews hfu.2.2.1 (by omega) (by omega)
        simp only [Nat.zero_add,Nat.zero_mul] at hg
        have he : arr cur 0 us = (List.take 0 cur.toList ++ us ++ List.drop us.length cur.toList).toArray := by simp [arr]
        rw [<- he] at hg
        exact ⟨_,_,hg,hpost⟩
       ·have hg := run_append_grow (P := P) w t ty e i z ht hi hz ⟨b,0,none⟩ 0 cap [] (by simp) (by simp) ⟨yb,yo,none⟩ m.length ycap us hfu.1 hnews (by omega) (by omega) (growslice_fits (by omega) (by simpa using hbytes))
        refine ⟨_,_,hg,?_⟩
        simp only [Nat.zero_add]
        have := grow_post (m' := mem.put tg (.front m.length i.size e) true) hm hl ho (rest := Builtin.zeroCells z.cells (grownCap w m.length cap e - m.length)) hfu' (by simp) h0 (grownCap_ge w m.length cap e) (by rw [size_zeroCells,hzs]) (fun k x hk => by have := hlast k x hk; omega) hmb (.inr ⟨htl,rfl⟩)
        simpa using this
     ·obtain ⟨b,o,cap,vs,rfl,-,hc,hfl,hil⟩ := hx.flat hls' hle
      obtain ⟨rfl,hrow⟩ := hc
      rw [hrow] at hrow1
      simp only [Option.some.injEq,Prod.mk.injEq] at hrow1
      obtain ⟨rfl,rfl⟩ := hrow1
      by_cases hroom : l.length + m.length <= cap
      ·obtain ⟨hfit,hpost⟩ := room_post hm hl ho hfl hfu' rfl (by simp) hmpos hroom hblk hrow (fun q v hq => by simpa using hil q v hq) hcur
       have hg := run_append_room (P := P) w t ty e i ht hi b l.length cap cur hcur ⟨yb,yo,none⟩ m.length ycap us hfu.1 hnews hfu.2.2.1 hroom hfit
       exact ⟨_,_,hg,hpost⟩
      ·have holds : ∀ j u,vs[j]? = some u -> w.cell? ((⟨b,0,none⟩ : Addr).add j) = some u := fun j u hj => by
        rw [Addr.add_mid]; exact hm.im _ _ _ (hil j u hj)
       have hg := run_append_grow (P := P) w t ty e i z ht hi hz ⟨b,0,none⟩ l.length cap vs hfl.1 holds ⟨yb,yo,none⟩ m.length ycap us hfu.1 hnews (by omega) hlen63 (growslice_fits (by omega) hbytes)
       refine ⟨_,_,hg,?_⟩
       have := grow_post (m' := mem.put tg (.front (l.length + m.length) i.size e) true) hm hl ho (rest := Builtin.zeroCells z.cells (grownCap w (l.length + m.length) cap e - (l.length + m.length))) (hfl.append hfu') (by simp) h0 (grownCap_ge w _ _ e) (by rw [size_zeroCells,hzs]) (fun k x hk => by have := hlast k x hk; omega) hmb (.inr ⟨htl,rfl⟩)
       simpa using this
  ·cases hr
 ·cases hr
end
end Go.Abs
