/- A text of this proof. -/
import Derived.Test.YtiigojkfojnedaaGreatDoorPLa
import Derived.Lib.AppendStr
set_option linter.unusedVariables false
set_option linter.unusedSimpArgs false
namespace Go.Abs
open Go.Lib (strCells strCells_length run_append_grow_string run_append_room_string run_firstCells_string)
def RowV (w : World) (e : TypeId) (s : List Nat) (v : Value) (r : Option Nat) : Prop :=
 (v = .slice none 0 0 /\ s = [] /\ r = none) \/ ∃ (g cap : Nat) (cur : Array Value),r = some g /\ v = .slice (some ⟨g,0,none⟩) s.length cap /\ s ≠ [] ∧
  w.heap[g]? = some (.cells cur e (0,0)) /\ cur.size = cap /\ s.length <= cap /\ cap <= maxLen /\ ∀ i (h : i < s.length),cur[i]? = some (.int .u8 s[i])
theorem strCells_at (s : ByteArray) (i : Nat) (h : i < (s.data.toList.map UInt8.toNat).length) : (strCells s)[i]? = some (.int .u8 ((s.data.toList.map UInt8.toNat)[i] : Nat)) := by
 have h' : i < s.data.size := by simpa using h
 simp only [strCells,List.getElem?_map,List.getElem_map]
 rw [List.getElem?_eq_getElem (by simpa using h')]
 rfl
theorem bld_append {P : Program} {w : World} {t u ty e : TypeId} {i : TypeInfo} (ht : P.underlying t = some (.slice e)) (hu : P.underlying u = some .string) (hi : P.info? e = some i) (hz : i.zero = some (.int .u8 0))
  (hsize : i.size = 1) (hby : i.bytes = 1) {v : Value} {r : Option Nat} {q : List Nat} (hv : RowV w e q v r) (s : ByteArray) (hlen : q.length + s.size <= 140737488355328) :
  ∃ (v' : Value) (w' : World) (r' : Option Nat),(Builtin.append_ #[t,u] ty #[v,.string s]).run P w = .ok v' w' /\ RowV w' e (q ++ s.data.toList.map UInt8.toNat) v' r' /\ (r' = r \/ r' = some w.heap.size) ∧
   w.heap.size <= w'.heap.size /\ w'.os = w.os /\ w'.tape = w.tape /\ w'.output = w.output /\ (∀ k,k < w.heap.size -> r ≠ some k -> w'.heap[k]? = w.heap[k]?) := by
 have hmx : ∀ n old,n <= 140737488355328 -> grownCap w n old e <= maxLen := fun n old h => grownCap_le_maxLen w n old e (by have : maxLen = 9223372036854775807 := rfl; omega)
 have hsl : (s.data.toList.map UInt8.toNat).length = s.size := by rw [List.length_map,Array.length_toList]; rfl
 rcases hv with ⟨rfl,rfl,rfl⟩ | ⟨g,cap,cur,rfl,rfl,hne,hg,hcs,hlc,hcm,hat⟩
 ·simp only [List.length_nil,Nat.zero_add] at hlen
  by_cases hm : s.size = 0
  ·have hn : s.data.toList.map UInt8.toNat = [] := List.eq_nil_of_length_eq_zero (by rw [hsl]; exact hm)
   refine ⟨.slice none 0 0,w,none,?_,.inl ⟨rfl,by rw [hn]; rfl,rfl⟩,.inl rfl,Nat.le_refl _,rfl,rfl,rfl,fun _ _ _ => rfl⟩
   have hf := run_firstCells_string (P := P) w 1 s
   rw [hm] at hf
   have hsc : strCells s = [] := List.eq_nil_of_length_eq_zero (by rw [strCells_length,hm])
   rw [hsc] at hf
   simp [Builtin.append_,run_underlying ht,run_underlying hu,sizeOf,typeInfo,hi,hsize,Builtin.lenOf,hm,hf]
  ·have hr := run_append_nil_string (P := P) w t u ty e i (.int .u8 0) ht hu hi hz s (by omega) (by omega) (by rw [hby]; omega)
   refine ⟨_,_,some w.heap.size,hr,.inr ⟨w.heap.size,grownCap w s.size 0 e,_,rfl,?_,?_,heap_alloc_at w.drew _,?_,?_,hmx _ _ hlen,fun j hj => ?_⟩,.inr rfl,?_,rfl,rfl,rfl,fun k hk _ => heap_alloc_lt w.drew _ hk⟩
   ·simp [hsl]
   ·intro h0; rw [List.nil_append] at h0; have := congrArg List.length h0; rw [hsl] at this; exact hm this
   ·have hz1 : (Value.int IntKind.u8 0).cells.size = 1 := rfl
    have := grownCap_ge w s.size 0 e
    have hds : s.data.size = s.size := rfl
    rw [Array.size_append,Array.size_map,size_zeroCells,hz1,hds]
    omega
   ·simp only [List.nil_append,hsl]; exact grownCap_ge w _ _ e
   ·simp only [List.nil_append] at hj ⊢
    have hj' : j < s.data.size := by simpa using hj
    rw [Array.getElem?_append_left (by simpa using hj'),Array.getElem?_map,Array.getElem?_eq_getElem hj']
    simp
   ·show w.heap.size <= (w.heap.push _).size; simp
 ·have hcurl : ∀ j u,(cur.toList.take q.length)[j]? = some u -> w.cell? ((⟨g,0,none⟩ : Addr).add j) = some u := by
   intro j u hj
   rw [List.getElem?_take] at hj
   split at hj
   ·rw [Addr.add_mid]
    simpa [World.cell?,hg] using hj
   ·cases hj
  have hqn : (q ++ s.data.toList.map UInt8.toNat) ≠ [] := by simp [hne]
  have hcell : ∀ j (hj : j < (q ++ s.data.toList.map UInt8.toNat).length),(cur.toList.take q.length ++ strCells s)[j]? = some (.int .u8 ((q ++ s.data.toList.map UInt8.toNat)[j] : Nat)) := by
   intro j hj
   have hcl : (cur.toList.take q.length).length = q.length := by simp; omega
   rcases Nat.lt_or_ge j q.length with h | h
   ·rw [List.getElem?_append_left (by omega),List.getElem?_take_of_lt h,List.getElem_append_left h,<- hat j h]
    simp
   ·rw [List.getElem?_append_right (by omega),List.getElem_append_right h,hcl]
    exact strCells_at s (j - q.length) (by simp at hj ⊢; omega)
  by_cases hroom : q.length + s.size <= cap
  ·have hr := run_append_room_string (P := P) w t u ty e i ht hu hi hsize g q.length cap cur hg s hroom (by omega)
   refine ⟨_,_,some g,hr,.inr ⟨g,cap,_,rfl,by rw [List.length_append,hsl],hqn,setRow_heap w g cur _ e _ hg,?_,by rw [List.length_append,hsl]; exact hroom,hcm,fun j hj => ?_⟩,.inl rfl,by simp,rfl,rfl,rfl,
    fun k _ hk => setRow_other w g k _ (fun e => hk (by rw [e]))⟩
   ·simp only [List.size_toArray,List.length_append,List.length_take,List.length_drop,Array.length_toList,strCells_length]
    omega
   ·have hj' : j < (cur.toList.take q.length ++ strCells s).length := by
     rw [List.length_append,hsl] at hj
     have hcl : cur.toList.length = cur.size := Array.length_toList
     rw [List.length_append,strCells_length,List.length_take]; omega
    have := hcell j hj
    rw [List.getElem?_toArray,List.getElem?_append_left hj']
    exact this
  ·have hr := run_append_grow_string (P := P) w t u ty e i (.int .u8 0) ht hu hi hz ⟨g,0,none⟩ q.length cap (cur.toList.take q.length) (by rw [hsize]; simp; omega) hcurl s (by omega) (by omega) (by rw [hby]; exact growslice_fits (by omega) (by omega))
   refine ⟨_,_,some w.heap.size,hr,.inr ⟨w.heap.size,grownCap w (q.length + s.size) cap e,_,rfl,by rw [List.length_append,hsl],hqn,heap_alloc_at w.drew _,?_,?_,hmx _ _ (by omega),fun j hj => ?_⟩,.inr rfl,?_,rfl,rfl,rfl,fun k hk _ => heap_alloc_lt w.drew _ hk⟩
   ·have hz1 : (Value.int IntKind.u8 0).cells.size = 1 := rfl
    have := grownCap_ge w (q.length + s.size) cap e
    simp [size_zeroCells,hz1,strCells_length]
    omega
   ·rw [List.length_append,hsl]; exact grownCap_ge w _ _ e
   ·have hj' : j < (cur.toList.take q.length ++ strCells s).length := by
     rw [List.length_append,hsl] at hj
     have hcl : cur.toList.length = cur.size := Array.length_toList
     rw [List.length_append,strCells_length,List.length_take]; omega
    have := hcell j hj
    rw [<- this]
    simp only [<- Array.getElem?_toList,Array.toList_append]
    rw [List.getElem?_append_left (by simpa using hj')]
   ·show w.heap.size <= (w.heap.push _).size; simp
section
variable {P : Program} {gl : Nat -> AV} {base : Nat} {LC : LCR} {g : Gh} {own : OW} {mem : Mem} {w w' : World}
structure BldAt (g : Gh) (own : OW) (w : World) (id : Nat) (T e : TypeId) (s : List Nat) (b : Nat) (p v : Value) (r : Option Nat) : Prop where
 mb : g.mb id = some b
 owned : own b = some (.m id)
 im : ∀ o,g.im b o = none
 heap : w.heap[b]? = some (.cells #[p,v] T (0,0))
 ptr : p = .pointer none \/ p = .pointer (some ⟨b,0,none⟩)
 bytes : ∀ x ∈ s,x < 256
 row : RowV w e s v r
 rown : ∀ k,r = some k -> own k = some (.m id) /\ k ≠ b /\ ∀ o,g.im k o = none
theorem bld_get {id : Nat} {T e : TypeId} {s : List Nat} (h : BlkR g own LC w id (.bld T e s)) : ∃ b p v r,BldAt g own w id T e s b p v r := by
 obtain ⟨b,h1,h2,h3,p,v,h4,h5,h6,⟨rfl,rfl⟩ | ⟨r,cap,cur,q1,q2,q3,q4,q5,q6,q7,q8,q9,q10⟩⟩ := h
 ·exact ⟨b,p,_,none,h1,h2,h3,h4,h5,h6,.inl ⟨rfl,rfl,rfl⟩,fun k hk => (by cases hk)⟩
 ·exact ⟨b,p,v,some r,h1,h2,h3,h4,h5,h6,.inr ⟨r,cap,cur,rfl,q1,q5,q6,q7,q8,q9,q10⟩,fun k hk => (by cases hk; exact ⟨q2,q3,q4⟩)⟩
theorem bld_mk {id : Nat} {T e : TypeId} {s : List Nat} {b : Nat} {p v : Value} {r : Option Nat} (h : BldAt g own w id T e s b p v r) : BlkR g own LC w id (.bld T e s) := by
 refine ⟨b,h.mb,h.owned,h.im,p,v,h.heap,h.ptr,h.bytes,?_⟩
 rcases h.row with ⟨h1,h2,h3⟩ | ⟨r',cap,cur,hr,q1,q5,q6,q7,q8,q9,q10⟩
 ·exact .inl ⟨h1,h2⟩
 ·obtain ⟨k1,k2,k3⟩ := h.rown r' hr
  exact .inr ⟨r',cap,cur,q1,k1,k2,k3,q5,q6,q7,q8,q9,q10⟩
theorem bld_lt {id : Nat} {T e : TypeId} {s : List Nat} {b : Nat} {p v : Value} {r : Option Nat} (h : BldAt g own w id T e s b p v r) : b < w.heap.size := (Array.getElem?_eq_some_iff.1 h.heap).1
theorem bld_post (hm : MemR g own LC mem w) (ho : OwnR base own w) (hgl : GlR g gl) {id : Nat} {T e : TypeId} {s s' : List Nat} {b : Nat} {p v p' v' : Value} {r r' : Option Nat} (hid : id < mem.blks.length)
  (hb : BldAt g own w id T e s b p v r) (hsz : w.heap.size <= w'.heap.size) (hos : w'.os = w.os) (htp : w'.tape = w.tape) (hout : w'.output = w.output)
  (hk : ∀ k,k < w.heap.size -> k ≠ b -> r ≠ some k -> w'.heap[k]? = w.heap[k]?)
  (hh : w'.heap[b]? = some (.cells #[p',v'] T (0,0))) (hp : p' = .pointer none \/ p' = .pointer (some ⟨b,0,none⟩)) (hs : ∀ x ∈ s',x < 256) (hrow : RowV w' e s' v' r')
  (hr : r' = r \/ ∃ k,r' = some k /\ w.heap.size <= k) {rv : AV} {x : Value} (hv : VR g noLB rv x) : CallPost base LC gl g own w rv (mem.put id (.bld T e s') true) x w' := by
 have hbo := hb.owned
 have hold : ∀ k,k < w.heap.size -> r' = some k -> r = some k := by
  intro k hk' hrk
  rcases hr with h | ⟨k0,h,hge⟩
  ·rw [<- h]; exact hrk
  ·rw [h] at hrk; cases hrk; omega
 let own' : OW := fun k => if r' = some k then some (.m id) else ownM own k
 have hlt' : ∀ k,r' = some k -> k < w'.heap.size := by
  intro k hk'
  rcases hrow with ⟨_,_,h3⟩ | ⟨g1,cap,cur,h1,_,_,h4,_⟩
  ·rw [h3] at hk'; cases hk'
  ·rw [h1] at hk'; cases hk'; exact (Array.getElem?_eq_some_iff.1 h4).1
 have hne : ∀ k id',own k = some (.m id') -> id' ≠ id -> k < w.heap.size /\ k ≠ b /\ r ≠ some k /\ r' ≠ some k := by
  intro k id' hk' hne
  have hlt := (ho.ge k _ hk').2
  have h2 : r ≠ some k := fun h => by
   have := (hb.rown k h).1
   rw [this] at hk'; cases hk'; exact hne rfl
  exact ⟨hlt,fun h => (by rw [h,hbo] at hk'; cases hk'; exact hne rfl),h2,fun h => h2 (hold k hlt h)⟩
 have himne : ∀ k o y,g.im k o = some y -> k ≠ b /\ r ≠ some k := fun k o y hy =>
  ⟨fun h => (by rw [h,hb.im] at hy; cases hy),fun h => (by rw [(hb.rown k h).2.2] at hy; cases hy)⟩
 refine ⟨g,own',⟨g.sub_refl,hsz,hos,htp,hout,fun k hlt hn => ?_,fun k hlt hn => ?_,fun _ _ _ _ => rfl⟩,⟨fun i c hc => ?_,fun t n y hy => ?_,fun i blk hi => ?_,fun k o y hy => ?_⟩,hv,⟨fun k o hko => ?_,Nat.le_trans ho.base hsz⟩,fun k d hd => ?_,hgl⟩
 ·refine hk k hlt (fun h => ?_) (fun h => ?_)
  ·rw [h,ownM_m hbo] at hn; cases hn
  ·rw [ownM_m (hb.rown k h).1] at hn; cases hn
 ·simp only [own']
  split
  ·rename_i h
   rw [ownM_m (hb.rown k (hold k hlt h)).1] at hn; cases hn
  ·exact hn
 ·simp only [Mem.put,List.length_set]; exact hm.dom i c hc
 ·simp only [Mem.put,List.length_set]; exact hm.rdom t n y hy
 ·simp only [Mem.put,List.getElem?_set] at hi
  split at hi
  ·rename_i hie; subst hie
   simp only [Option.some.injEq] at hi
   subst hi
   refine bld_mk ⟨hb.mb,?_,hb.im,hh,hp,hs,hrow,fun k hk' => ⟨by simp only [own']; rw [if_pos hk'],?_,fun o => ?_⟩⟩
   ·simp only [own']
    split
    ·rfl
    ·exact ownM_m hbo
   ·intro h
    have hlt := bld_lt hb
    exact (hb.rown k (hold k (by omega) hk')).2.1 h
   ·cases hx : g.im k o with
    | none => rfl
    | some y =>
     have h1 := cell_lt (hm.im k o y hx)
     have := (hb.rown k (hold k h1 hk')).2.2 o
     rw [this] at hx; cases hx
  ·rename_i hie
   refine (hm.blk i blk hi).keep g.sub_refl (fun k hk' => ?_) (fun _ h => h) (fun h => h)
   obtain ⟨k1,k2,k3,k4⟩ := hne k i hk' (fun h => hie h.symm)
   exact ⟨by simp only [own']; rw [if_neg k4,ownM_m hk',hk'],hk k k1 k2 k3,fun _ => rfl⟩
 ·have hc := hm.im k o y hy
  obtain ⟨k1,k2⟩ := himne k o y hy
  rw [cell?_of_heap (hk k (cell_lt hc) k1 k2)]; exact hc
 ·simp only [own'] at hko
  split at hko
  ·rename_i h
   refine ⟨?_,hlt' k h⟩
   rcases Nat.lt_or_ge k w.heap.size with hl | hl
   ·exact (ho.ge k _ (hb.rown k (hold k hl h)).1).1
   ·exact Nat.le_trans ho.base hl
  ·have := ho.ge k o (ownM_some hko).1
   exact ⟨this.1,Nat.lt_of_lt_of_le this.2 hsz⟩
 ·simp only [own'] at hd
  split at hd
  ·cases hd
  ·obtain ⟨_,i,h⟩ := ownM_some hd; cases h
theorem bld_dead (hm : MemR g own LC mem w) (ho : OwnR base own w) (hgl : GlR g gl) {id : Nat} {T e : TypeId} {s : List Nat} {b : Nat} {p v : Value} {r : Option Nat}
  (hb : BldAt g own w id T e s b p v r) (hsz : w.heap.size <= w'.heap.size) (hos : w'.os = w.os) (htp : w'.tape = w.tape) (hout : w'.output = w.output)
  (hk : ∀ k,k < w.heap.size -> r ≠ some k -> w'.heap[k]? = w.heap[k]?) {rv : AV} {x : Value} (hv : VR g noLB rv x) : CallPost base LC gl g own w rv (mem.put id .dead true) x w' := by
 have himne : ∀ k o y,g.im k o = some y -> r ≠ some k := fun k o y hy h => by rw [(hb.rown k h).2.2] at hy; cases hy
 refine ⟨g,ownM own,⟨g.sub_refl,hsz,hos,htp,hout,fun k hlt hn => ?_,fun k hlt hn => by simpa [ownM] using hn,fun _ _ _ _ => rfl⟩,⟨fun i c hc => ?_,fun t n y hy => ?_,fun i blk hi => ?_,fun k o y hy => ?_⟩,hv,⟨fun k o hko => ?_,Nat.le_trans ho.base hsz⟩,fun k d hd => ?_,hgl⟩
 ·refine hk k hlt (fun h => ?_)
  rw [ownM_m (hb.rown k h).1] at hn; cases hn
 ·simp only [Mem.put,List.length_set]; exact hm.dom i c hc
 ·simp only [Mem.put,List.length_set]; exact hm.rdom t n y hy
 ·simp only [Mem.put,List.getElem?_set] at hi
  split at hi
  ·split at hi
   ·cases hi; trivial
   ·cases hi
  ·rename_i hie
   refine (hm.blk i blk hi).keep g.sub_refl (fun k hk' => ?_) (fun _ h => h) (fun h => h)
   refine ⟨by rw [ownM_m hk',hk'],hk k (ho.ge k _ hk').2 (fun h => ?_),fun _ => rfl⟩
   have := (hb.rown k h).1
   rw [hk'] at this; cases this; exact hie rfl
 ·have hc := hm.im k o y hy
  rw [cell?_of_heap (hk k (cell_lt hc) (himne k o y hy))]; exact hc
 ·have := ho.ge k o (ownM_some hko).1
  exact ⟨this.1,Nat.lt_of_lt_of_le this.2 hsz⟩
 ·obtain ⟨_,i,h⟩ := ownM_some hd; cases h
end
end Go.Abs
