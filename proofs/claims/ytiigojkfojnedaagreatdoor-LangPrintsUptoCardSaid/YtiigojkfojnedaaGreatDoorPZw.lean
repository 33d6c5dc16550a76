/- A text of this proof. -/
import Derived.Test.YtiigojkfojnedaaGreatDoorPPr
import Derived.Test.YtiigojkfojnedaaGreatDoorProg
import Derived.Lib.Builder
import Derived.Lib.UnsafeStr
import Derived.Lib.Walk
import Derived.WalkKit
import Derived.Laws.Externs
import Derived.Shelf.SlMaps.Clone
set_option linter.unusedVariables false
set_option linter.unusedSimpArgs false
namespace Go.Abs.Tz
open Go.Abs Go.Proofs Go.RowKit
theorem setCell_other (w : World) (b i k : Nat) (v : Value) (h : k ≠ b) : (w.setCell ⟨b,i,none⟩ v).heap[k]? = w.heap[k]? := by
 simp only [World.setCell,Array.getElem?_modify]
 rw [if_neg (fun e => h e.symm)]
theorem rowV_congr {w w' : World} {e : TypeId} {s : List Nat} {v : Value} {r : Option Nat} (h : RowV w e s v r) (hk : ∀ k,r = some k -> w'.heap[k]? = w.heap[k]?) : RowV w' e s v r := by
 rcases h with h | ⟨g,cap,cur,rfl,h2,h3,h4,h5⟩
 ·exact .inl h
 ·exact .inr ⟨g,cap,cur,rfl,h2,h3,(hk g rfl).trans h4,h5⟩
theorem wpList_bld {P : Program} {w : World} {ops : Array Oper} {rest : List Oper} {o : Oper} {a : Act} {Q : Exit -> Act -> World -> Prop} (hgd : o.guard = none) (sl x : Operand) (t u : TypeId)
  (ho : o.op = .call { callee := .builtin .append,args := #[sl,x],argTypes := #[t,u] }) {e : TypeId} {i : TypeInfo} (ht : P.underlying t = some (.slice e)) (hu : P.underlying u = some .string) (hi : P.info? e = some i)
  (hz : i.zero = some (.int .u8 0)) (hsize : i.size = 1) (hby : i.bytes = 1) {v : Value} {r : Option Nat} {q : List Nat} (hs : a.eval sl = v) (hv : RowV w e q v r) (s : ByteArray) (hx : a.eval x = .string s)
  (hlen : q.length + s.size <= 140737488355328)
  (h : ∀ (v' : Value) (w' : World) (r' : Option Nat),RowV w' e (q ++ s.data.toList.map UInt8.toNat) v' r' -> (r' = r \/ r' = some w.heap.size) -> w.heap.size <= w'.heap.size -> w'.os = w.os -> w'.tape = w.tape -> w'.output = w.output →
   (∀ k,k < w.heap.size -> r ≠ some k -> w'.heap[k]? = w.heap[k]?) -> wpList P ops Q rest (a.put o.dst v') w') : wpList P ops Q (o :: rest) a w := by
 refine wpList_plain hgd fun K hK => ?_
 obtain ⟨v',w',r',hr,h1,h2,h3,h4,h5,h6,h7⟩ := bld_append (P := P) (ty := o.type) ht hu hi hz hsize hby hv s hlen
 unfold Oper.wp execOp
 simp only [ho,resolve,invoke,builtin,Sem.run_bind,Sem.run_pure,Result.andThen_ok,List.map_toArray,List.map_cons,List.map_nil,hs,hx,hr]
 exact hK _ _ (h v' w' r' h1 h2 h3 h4 h5 h6 h7)
def Checked (w w' : World) (b : Nat) (v : Value) : Prop :=
 w'.heap[b]? = some (.cells #[.pointer (some ⟨b,0,none⟩),v] 150 (0,0)) /\ w'.heap.size = w.heap.size /\ w'.os = w.os /\ w'.tape = w.tape /\ w'.output = w.output /\ ∀ k,k ≠ b -> w'.heap[k]? = w.heap[k]?
set_option maxHeartbeats 1000000 in
set_option maxRecDepth 100000 in
theorem copyCheck_used (b : Nat) (w : World) (h0 : w.cell? ⟨b,0,none⟩ = some (.pointer (some ⟨b,0,none⟩))) :
  Calls Tryz.prog 170 #[.pointer (some ⟨b,0,none⟩)] w fun e w' => e = .returned (.tuple #[]) /\ w' = w := by
 obtain ⟨j,hj,_⟩ := Option.map_eq_some_iff.1 (show (Tryz.prog.info? 150).map (·.size) = some 2 by kernel_rfl)
 go_enter Tryz.func170,Tryz.ntmps170
 go_wp2
 rw [Lib.run_neq_ptr_same w _ Tryz.underlying148 hj]
 go_wp2
 go_end0
 exact ⟨rfl,rfl⟩
set_option maxHeartbeats 1000000 in
set_option maxRecDepth 100000 in
theorem copyCheck_fresh (b : Nat) (w : World) (h0 : w.cell? ⟨b,0,none⟩ = some (.pointer none)) (hsh : w.shape? b = some (150,2)) (hfz : w.frozen? ⟨b,0,none⟩ = false) :
  Calls Tryz.prog 170 #[.pointer (some ⟨b,0,none⟩)] w fun e w' => e = .returned (.tuple #[]) /\ w' = w.setCell ⟨b,0,none⟩ (.pointer (some ⟨b,0,none⟩)) := by
 obtain ⟨j,hj,hjs⟩ := Option.map_eq_some_iff.1 (show (Tryz.prog.info? 150).map (·.size) = some 2 by kernel_rfl)
 go_enter Tryz.func170,Tryz.ntmps170
 go_wp2
 rw [Lib.run_to_unsafe w ⟨b,0,none⟩ Tryz.underlying148 Tryz.underlying290 hj (by rw [hjs]; decide) hsh (Nat.zero_lt_succ 1)]
 simp only [Result.andThen]
 rw [Oper.upon_value]
 go_wp2
 rw [run_callFunc_extern Tryz.func221 (by kernel_rfl) (by kernel_rfl) (by kernel_rfl) (e := Extern.AbiNoEscape.same) (by kernel_rfl)]
 rw [Lib.run_noEscape]
 simp only [Result.andThen]
 rw [Oper.upon_value]
 go_wp2
 rw [Lib.run_from_unsafe w ⟨b,0,none⟩ Tryz.underlying290 Tryz.underlying148 hj hsh (by kernel_rfl)]
 simp only [Result.andThen]
 rw [Oper.upon_value]
 go_wp2
 go_end0
 exact ⟨rfl,rfl⟩
theorem copyCheck (b : Nat) (p v : Value) (w : World) (hb : w.heap[b]? = some (.cells #[p,v] 150 (0,0))) (hp : p = .pointer none \/ p = .pointer (some ⟨b,0,none⟩)) :
  Calls Tryz.prog 170 #[.pointer (some ⟨b,0,none⟩)] w fun e w' => e = .returned (.tuple #[]) /\ Checked w w' b v := by
 have c0 : w.cell? ⟨b,0,none⟩ = some p := by rw [Lib.cell_of_heap hb]; rfl
 rcases hp with rfl | rfl
 ·refine (copyCheck_fresh b w c0 (by simp [World.shape?,hb]) (by simp [World.frozen?,hb])).mono fun e w' ⟨he,hw⟩ => ?_
  subst hw
  refine ⟨he,?_,by simp [World.setCell],rfl,rfl,rfl,fun k hk => setCell_other w b 0 k _ hk⟩
  simp [World.setCell,Array.getElem?_modify,hb]
 ·refine (copyCheck_used b w c0).mono fun e w' ⟨he,hw⟩ => ?_
  subst hw
  exact ⟨he,hb,rfl,rfl,rfl,rfl,fun k hk => rfl⟩
set_option maxHeartbeats 2000000 in
set_option maxRecDepth 100000 in
theorem writeString (b : Nat) (s : ByteArray) (p v : Value) (r : Option Nat) (q : List Nat) (w : World) (hb : w.heap[b]? = some (.cells #[p,v] 150 (0,0))) (hp : p = .pointer none \/ p = .pointer (some ⟨b,0,none⟩))
  (hrow : RowV w 5 q v r) (hrb : r ≠ some b) (hlen : q.length + s.size <= 140737488355328) :
  Calls Tryz.prog 106 #[.pointer (some ⟨b,0,none⟩),.string s] w fun en w' => en = .returned (.tuple #[.int .i64 s.size,.nilIface]) /\ KeptBld w w' b r /\ ∃ p' v' r',w'.heap[b]? = some (.cells #[p',v'] 150 (0,0)) ∧
   (p' = .pointer none \/ p' = .pointer (some ⟨b,0,none⟩)) /\ RowV w' 5 (q ++ s.data.toList.map UInt8.toNat) v' r' /\ (r' = r \/ ∃ k,r' = some k /\ w.heap.size <= k) := by
 obtain ⟨i0,hi,hz0,hz1,hz2⟩ := info_parts (show (Tryz.prog.info? 5).map (fun i => (i.zero,i.size,i.bytes)) = some (some (.int .u8 0),1,1) by kernel_rfl)
 go_enter Tryz.func106,Tryz.ntmps106
 go_wp2_with (go_at_call 170; refine (copyCheck b p v _ hb hp).mono ?_)
 rintro e w1 ⟨rfl,hc⟩
 have hb1 := hc.1
 have c0 : w1.cell? ⟨b,0,none⟩ = some (.pointer (some ⟨b,0,none⟩)) := by rw [Lib.cell_of_heap hb1]; rfl
 have c1 : w1.cell? ⟨b,1,none⟩ = some v := by rw [Lib.cell_of_heap hb1]; rfl
 have hrow1 : RowV w1 5 q v r := rowV_congr hrow fun k hk => hc.2.2.2.2.2 k fun e => hrb (by rw [hk,e])
 go_wp2_with (at_builtin; refine wpList_bld rfl _ _ 51 9 rfl Tryz.underlying51 Tryz.underlying9 hi hz0 hz1 hz2 rfl hrow1 s rfl hlen ?_)
 intro v' w2 r' hrow' hr' hsz2 hos2 htp2 hou2 hk2
 have hlt : b < w1.heap.size := (Array.getElem?_eq_some_iff.1 hb1).1
 have hb2 : w2.heap[b]? = some (.cells #[.pointer (some ⟨b,0,none⟩),v] 150 (0,0)) := (hk2 b hlt hrb).trans hb1
 have d0 : w2.cell? ⟨b,0,none⟩ = some (.pointer (some ⟨b,0,none⟩)) := by rw [Lib.cell_of_heap hb2]; rfl
 have d1 : w2.cell? ⟨b,1,none⟩ = some v := by rw [Lib.cell_of_heap hb2]; rfl
 have f1 : w2.frozen? ⟨b,1,none⟩ = false := Lib.frozen_of_heap hb2 1
 have hsl : ∃ ao n' cap,v' = .slice ao n' cap := by
  rcases hrow' with ⟨hv,_⟩ | ⟨g,cap,cur,_,hv,_⟩
  ·exact ⟨_,_,_,hv⟩
  ·exact ⟨_,_,_,hv⟩
 obtain ⟨ao,n',cap,rfl⟩ := hsl
 have hrb' : r' ≠ some b := by
  rcases hr' with h | h
  ·rw [h]; exact hrb
  ·rw [h]; intro e; cases e; omega
 go_wp2
 go_ret2
 obtain ⟨-,hsz1,hos1,htp1,hou1,hk1⟩ := hc
 refine ⟨rfl,⟨by simp [World.setCell]; omega,hos2.trans hos1,htp2.trans htp1,hou2.trans hou1,fun k hk hkb hkr => ?_⟩,.pointer (some ⟨b,0,none⟩),.slice ao n' cap,r',?_,.inr rfl,?_,?_⟩
 ·rw [setCell_other _ _ _ _ _ hkb,hk2 k (by omega) hkr,hk1 k hkb]
 ·simp [World.setCell,Array.getElem?_modify,hb2]
 ·exact rowV_congr hrow' fun k hk => setCell_other _ _ _ _ _ fun e => hrb' (by rw [hk,e])
 ·rcases hr' with h | h
  ·exact .inl h
  ·exact .inr ⟨_,h,by omega⟩
set_option maxHeartbeats 1000000 in
set_option maxRecDepth 100000 in
theorem bString_some (b g cap : Nat) (p : Value) (cur : Array Value) (l : List UInt8) (w : World) (h0 : l ≠ []) (hb : w.heap[b]? = some (.cells #[p,.slice (some ⟨g,0,none⟩) l.length cap] 150 (0,0)))
  (hg : w.heap[g]? = some (.cells cur 5 (0,0))) (hcs : cur.size = cap) (hlc : l.length <= cap) (hcm : cap <= maxLen) (hat : ∀ (j : Nat) (x : UInt8),l[j]? = some x -> cur[j]? = some (Value.int .u8 x.toNat)) :
  Calls Tryz.prog 111 #[.pointer (some ⟨b,0,none⟩)] w fun e w' => e = .returned (.string ⟨l.toArray⟩) /\ w' = w.drew.freeze ⟨g,0,none⟩ l.length := by
 have hl0 : l.length ≠ 0 := by simpa using h0
 have hmx : maxLen = 9223372036854775807 := rfl
 have hgd : w.drew.heap[g]? = some (.cells cur 5 (0,0)) := hg
 have c1 : w.drew.cell? ⟨b,1,none⟩ = some (.slice (some ⟨g,0,none⟩) l.length cap) := by
  have : w.drew.heap[b]? = some (.cells #[p,.slice (some ⟨g,0,none⟩) l.length cap] 150 (0,0)) := hb
  rw [Lib.cell_of_heap this]; rfl
 have hSD : (Builtin.unsafeSliceData_ #[51] 241 #[.slice (some ⟨g,0,none⟩) l.length cap]).run Tryz.prog w.drew = .ok (.pointer (some ⟨g,0,none⟩)) w.drew :=
  Lib.run_unsafeSliceData_row _ _ _ _ _ _ (by omega)
 have hUS : (Builtin.unsafeString_ #[241,3] 9 #[.pointer (some ⟨g,0,none⟩),.int .i64 l.length]).run Tryz.prog w.drew = .ok (.string ⟨l.toArray⟩) (w.drew.freeze ⟨g,0,none⟩ l.length) := by
  refine Lib.run_unsafeString_row w.drew 241 3 9 5 Tryz.underlying241 (by kernel_rfl) g cur.size (by simp [World.shape?,hgd]) l h0 (by omega) (by omega) ?_
  intro j x hx
  have hz : ((⟨g,0,none⟩ : Addr).add j) = ⟨g,j,none⟩ := by rw [Addr.add_mid]; simp
  rw [hz,Lib.cell_of_heap hgd]
  exact hat j x hx
 clear hb hg hgd hat
 go_enter Tryz.func111,Tryz.ntmps111
 go_wp2
 go_region
 all_goals (go_wp2; go_ret; exact ⟨rfl,rfl⟩)
set_option maxHeartbeats 1000000 in
set_option maxRecDepth 100000 in
theorem bString_nil (b : Nat) (p : Value) (w : World) (hb : w.heap[b]? = some (.cells #[p,.slice none 0 0] 150 (0,0))) :
  Calls Tryz.prog 111 #[.pointer (some ⟨b,0,none⟩)] w fun e w' => e = .returned (.string ⟨#[]⟩) /\ w' = w.drew := by
 have hSD : (Builtin.unsafeSliceData_ #[51] 241 #[.slice none 0 0]).run Tryz.prog w.drew = .ok (.pointer none) w.drew := Lib.run_unsafeSliceData_nil w.drew _ _ _ _
 have hUS : (Builtin.unsafeString_ #[241,3] 9 #[.pointer none,.int .i64 0]).run Tryz.prog w.drew = .ok (.string .empty) w.drew := Lib.run_unsafeString_none w.drew _ _ _ none
 have c1 : w.drew.cell? ⟨b,1,none⟩ = some (.slice none 0 0) := by
  have : w.drew.heap[b]? = some (.cells #[p,.slice none 0 0] 150 (0,0)) := hb
  rw [Lib.cell_of_heap this]; rfl
 clear hb
 go_enter Tryz.func111,Tryz.ntmps111
 go_wp2
 go_region
 all_goals (go_wp2; go_ret; exact ⟨rfl,rfl⟩)
set_option maxHeartbeats 1000000 in
set_option maxRecDepth 100000 in
theorem mapsClone (b : Nat) (es : Array MapEntry) (clock : Nat) (w : World) (hb : w.heap[b]? = some (.map es clock)) :
  Calls Tryz.prog 277 #[.map (some b)] w fun e w' => e = .returned (.map (some w.heap.size)) /\ w' = w.alloc (.map es clock) := by
 have hq := fun w => run_eql_map_nil_sl (P := Tryz.prog) w 261 _ _ (some b) Tryz.underlying261
 go_enter Tryz.func277,Tryz.ntmps277
 go_wp2
 rw [run_callFunc_extern Tryz.func299 (by kernel_rfl) (by kernel_rfl) (by kernel_rfl) (e := Extern.MapsClone.clone) (by kernel_rfl),run_maps_clone_sl w 261 hb]
 simp only [Result.andThen]
 rw [Oper.upon_value]
 go_wp2
 rw [run_typeAssert_map_sl _ 261 20 _ _ _ Tryz.underlying261]
 simp only [Result.andThen]
 rw [Oper.upon_value]
 go_wp2
 go_ret
 exact ⟨rfl,rfl⟩
end Go.Abs.Tz
