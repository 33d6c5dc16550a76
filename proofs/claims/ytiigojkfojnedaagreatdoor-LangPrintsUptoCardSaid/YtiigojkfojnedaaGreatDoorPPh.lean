/- A text of this proof. -/
import Derived.Test.YtiigojkfojnedaaGreatDoorPYa
import Derived.Test.YtiigojkfojnedaaGreatDoorPHi
import Derived.Test.YtiigojkfojnedaaGreatDoorPHz
set_option linter.unusedVariables false
set_option linter.unusedSimpArgs false
set_option maxRecDepth 100000
namespace Go.Abs.Tz
open Go Go.Abs Go.Proofs Go.Proofs.YtiigojkfojnedaaGreatDoor
section
variable {H : Type} {enc : TypeId × Value -> H} {w : World} {base : Nat} {sp : Nat -> Bool} {held : Bool}
theorem cells74 : Tryz.prog.cellsOf 74 = 2 := by kernel_rfl
theorem cells66 : Tryz.prog.cellsOf 66 = 14 := by kernel_rfl
theorem cells76 : Tryz.prog.cellsOf 76 = 2 := by kernel_rfl
theorem cells70 : Tryz.prog.cellsOf 70 = 3 := by kernel_rfl
theorem cells24 : Tryz.prog.cellsOf 24 = 1 := by kernel_rfl
theorem cells22 : Tryz.prog.cellsOf 22 = 1 := by kernel_rfl
theorem cells63 : Tryz.prog.cellsOf 63 = 1 := by kernel_rfl
theorem cells64 : Tryz.prog.cellsOf 64 = 1 := by kernel_rfl
theorem cells68 : Tryz.prog.cellsOf 68 = 1 := by kernel_rfl
theorem pw_app {α β : Type} {R : α -> β -> Prop} {a a' : List α} {b b' : List β} (h : PW R a b) (h' : PW R a' b') : PW R (a ++ a') (b ++ b') := by
 refine ⟨by simp [h.1,h'.1],fun i hi hi' => ?_⟩
 by_cases hc : i < a.length
 ·rw [List.getElem_append_left hc,List.getElem_append_left (by rw [<- h.1]; exact hc)]
  exact h.2 i hc _
 ·have hc := Nat.not_lt.1 hc
  have e := h.1
  rw [List.getElem_append_right hc,List.getElem_append_right (by omega)]
  simp only [e]
  exact h'.2 _ _ _
theorem pw_one {α β : Type} {R : α -> β -> Prop} {a : α} {b : β} (h : R a b) : PW R [a] [b] := ⟨rfl,fun i hi _ => by
 match i,hi with
 | 0,_ => exact h⟩
def total {α : Type} (f : α -> Nat) : List α -> Nat
 | [] => 0
 | x :: l => f x + total f l
theorem list_of {α : Type} {f : α -> AV} {Q : α -> Prop} {wt : α -> Nat} : ∀ (l : List AV) (ds : List (DataW H)),l.length = ds.length →
  (∀ i (h : i < l.length) (h' : i < ds.length),∃ x,l[i] = f x /\ Q x /\ wt x <= Rows.uptoBulk ds[i]) -> ∃ xs : List α,l = xs.map f /\ (∀ x ∈ xs,Q x) /\ total wt xs <= Rows.uptoBulkAll ds
 | [],[],_,_ => ⟨[],rfl,fun _ h => (by cases h),Nat.le_refl _⟩
 | a :: l,d :: ds,hl,h => by
  obtain ⟨x,h1,h2,h3⟩ := h 0 (by simp) (by simp)
  obtain ⟨xs,k1,k2,k3⟩ := list_of l ds (by simpa using hl) (fun i hi hi' => h (i + 1) (Nat.succ_lt_succ hi) (Nat.succ_lt_succ hi'))
  simp only [List.getElem_cons_zero] at h1 h3
  refine ⟨x :: xs,by rw [h1,k1]; rfl,fun y hy => ?_,by simp only [total,Rows.uptoBulkAll]; omega⟩
  rcases List.mem_cons.1 hy with rfl | hy
  ·exact h2
  ·exact k2 y hy
 | [],_ :: _,hl,_ => by simp at hl
 | _ :: _,[],hl,_ => by simp at hl
theorem cell_of {α : Type} {f : α -> AV} {Q : α -> Prop} {wt : α -> Nat} {t e : TypeId} (hu : Tryz.prog.underlying t = some (.slice e)) {sz : Nat} (hsz : Tryz.prog.cellsOf e = sz) (h0 : 0 < sz) {fuel : Nat} {cs : List Value} {y : DataW H × List MemPlace}
  (helem : ∀ n,n < fuel -> ∀ cs y,DataW.trod enc Tryz.prog w base sp held n e cs = some y -> ∃ x,Q x /\ wt x <= Rows.uptoBulk y.1 /\ PW (VR (ghW w) noLB) (f x).cells cs /\ ∀ v ∈ cs,v.oneCell' = true)
  (h : DataW.trod enc Tryz.prog w base sp held fuel t cs = some y) :
  ∃ (v : Value) (c : Cap) (xs : List α),cs = [v] /\ v.oneCell' = true /\ okCap c /\ (c = .nil -> xs = []) /\ (∀ x ∈ xs,Q x) /\ VR (ghW w) noLB (.list c (xs.map f)) v /\ total wt xs + 1 <= Rows.uptoBulk y.1 := by
 obtain ⟨v,q,hone,hv⟩ := vr_slice (A := fun el d => ∃ x,el = f x /\ Q x /\ wt x <= Rows.uptoBulk d) hu hsz h0 (fun n hn cs' y' ht _ => by
  obtain ⟨x,k1,k2,k3,k4⟩ := helem n hn cs' y' ht
  exact ⟨f x,⟨x,rfl,k1,k2⟩,k3,k4⟩) h
 rcases hv with ⟨h1,h2⟩ | ⟨l,ds,rest,h1,h2,h3,h4⟩
 ·exact ⟨v,.nil,[],q,hone,.inl rfl,fun _ => rfl,fun _ h => (by cases h),h1,by rw [h2]; simp [total,Rows.uptoBulk]⟩
 ·obtain ⟨xs,rfl,g2,g3⟩ := list_of l ds h3 h4
  refine ⟨v,.any,xs,q,hone,.inr rfl,fun h => (by cases h),g2,h1,?_⟩
  rw [h2]
  simp only [Rows.uptoBulk]
  omega
theorem trod_idx' (fuel : Nat) (cs : List Value) (y : DataW H × List MemPlace) (h : DataW.trod enc Tryz.prog w base sp held fuel 27 cs = some y) :
  ∃ x : Idx,x.Ok2 /\ x.cnt <= Rows.uptoBulk y.1 /\ PW (VR (ghW w) noLB) x.av.cells cs /\ ∀ v ∈ cs,v.oneCell' = true := by
 obtain ⟨el,⟨x,rfl,h1,h2⟩,h3,h4⟩ := trod_idx fuel cs y h
 exact ⟨x,h1,h2,h3,h4⟩
theorem total_cnt (l : List Idx) : total Idx.cnt l = Idx.cnts l := by
 induction l with
 | nil => rfl
 | cons a l ih => simp only [total,Idx.cnts,ih]
theorem total_plc (l : List Plc) : total Plc.wt l = plcsW l := by
 induction l with
 | nil => rfl
 | cons a l ih => simp only [total,plcsW,ih]
theorem total_stp (l : List Stp) : total Stp.wt l = Stp.wts l := by
 induction l with
 | nil => rfl
 | cons a l ih => simp only [total,Stp.wts,ih]
theorem total_prc (l : List Prc) : total Prc.wt l = prcsW l := by
 induction l with
 | nil => rfl
 | cons a l ih => simp only [total,prcsW,ih]
theorem total_one (l : List Par) : total (fun _ => 1) l = l.length := by
 induction l with
 | nil => rfl
 | cons a l ih => simp only [total,List.length_cons,ih]; omega
theorem oks_of_all (l : List Stp) (h : ∀ x ∈ l,x.Ok) : Stp.Oks l := by
 induction l with
 | nil => trivial
 | cons a l ih => exact ⟨h a (List.mem_cons_self ..),ih fun x hx => h x (List.mem_cons_of_mem _ hx)⟩
theorem trod_plc (fuel : Nat) (cs : List Value) (y : DataW H × List MemPlace) (h : DataW.trod enc Tryz.prog w base sp held fuel 74 cs = some y) :
  ∃ x : Plc,x.Ok /\ x.wt <= Rows.uptoBulk y.1 /\ PW (VR (ghW w) noLB) x.av.cells cs /\ ∀ v ∈ cs,v.oneCell' = true := by
 obtain ⟨xs,n,rfl,rfl,hlen,hxs,hf⟩ := DataW.trod_struct Tryz.underlying74 h
 rw [cells74] at hlen
 have hx2 : xs.length = 2 := by simpa using hxs
 match cs,hlen,xs,hx2 with
 | [c0,c1],_,[x0,x1],_ =>
  have e0 : DataW.trod enc Tryz.prog w base sp held n 9 (([c0,c1].drop 0).take (Tryz.prog.cellsOf 9)) = some x0 := hf 0 _ rfl
  have e1 : DataW.trod enc Tryz.prog w base sp held n 25 (([c0,c1].drop 1).take (Tryz.prog.cellsOf 25)) = some x1 := hf 1 _ rfl
  rw [cells9] at e0
  rw [cells25] at e1
  simp only [List.drop_zero,List.drop_succ_cons,List.take_succ_cons,List.take_zero] at e0 e1
  obtain ⟨s,q0,r0,-⟩ := DataW.trod_string Tryz.underlying9 e0
  obtain ⟨v,c,l,q1,hone,hc,-,hq,hv,hb⟩ := cell_of (f := Idx.av) (Q := Idx.Ok2) (wt := Idx.cnt) Tryz.underlying25 cells27 (by decide) (fun n _ => trod_idx' n) e1
  simp only [List.cons.injEq,and_true] at q0 q1
  subst q0 q1
  refine ⟨⟨s.data.toList.map UInt8.toNat,c,l⟩,⟨okStr_bytes _,hc,hq⟩,?_,pw_app (a := [_]) (b := [_]) (pw_one (.str _ _ _ rfl)) (pw_one hv),fun v hv => ?_⟩
  ·have := bulk_pos x0.1
   rw [total_cnt] at hb
   simp only [Plc.wt,Rows.uptoBulk,Rows.uptoBulkAll,List.map_cons,List.map_nil]
   omega
  ·simp only [List.mem_cons,List.not_mem_nil,or_false] at hv
   rcases hv with rfl | rfl
   ·rfl
   ·exact hone
theorem trod_par (fuel : Nat) (cs : List Value) (y : DataW H × List MemPlace) (h : DataW.trod enc Tryz.prog w base sp held fuel 76 cs = some y) :
  ∃ x : Par,okStr x.name /\ 1 <= Rows.uptoBulk y.1 /\ PW (VR (ghW w) noLB) x.av.cells cs /\ ∀ v ∈ cs,v.oneCell' = true := by
 obtain ⟨xs,n,rfl,rfl,hlen,hxs,hf⟩ := DataW.trod_struct Tryz.underlying76 h
 rw [cells76] at hlen
 have hx2 : xs.length = 2 := by simpa using hxs
 match cs,hlen,xs,hx2 with
 | [c0,c1],_,[x0,x1],_ =>
  have e0 : DataW.trod enc Tryz.prog w base sp held n 9 (([c0,c1].drop 0).take (Tryz.prog.cellsOf 9)) = some x0 := hf 0 _ rfl
  have e1 : DataW.trod enc Tryz.prog w base sp held n 3 (([c0,c1].drop 1).take (Tryz.prog.cellsOf 3)) = some x1 := hf 1 _ rfl
  rw [cells9] at e0
  rw [cells3] at e1
  simp only [List.drop_zero,List.drop_succ_cons,List.take_succ_cons,List.take_zero] at e0 e1
  obtain ⟨s,q0,r0,-⟩ := DataW.trod_string Tryz.underlying9 e0
  obtain ⟨k,q1,r1,-⟩ := DataW.trod_int Tryz.underlying3 e1
  simp only [List.cons.injEq,and_true] at q0 q1
  subst q0 q1
  refine ⟨⟨s.data.toList.map UInt8.toNat,k⟩,okStr_bytes _,bulk_pos _,pw_app (a := [_]) (b := [_]) (pw_one (.str _ _ _ rfl)) (pw_one (.int _ _ _)),fun v hv => ?_⟩
  simp only [List.mem_cons,List.not_mem_nil,or_false] at hv
  rcases hv with rfl | rfl
  ·rfl
  ·rfl
theorem trod_stp (fuel : Nat) : ∀ (cs : List Value) (y : DataW H × List MemPlace),DataW.trod enc Tryz.prog w base sp held fuel 66 cs = some y →
  ∃ x : Stp,x.Ok /\ x.wt <= Rows.uptoBulk y.1 /\ PW (VR (ghW w) noLB) x.av.cells cs /\ ∀ v ∈ cs,v.oneCell' = true := by
 induction fuel using Nat.strongRecOn with
 | _ fuel ih =>
  intro cs y h
  obtain ⟨xs,n,rfl,rfl,hlen,hxs,hf⟩ := DataW.trod_struct Tryz.underlying66 h
  rw [cells66] at hlen
  have hx8 : xs.length = 8 := by simpa using hxs
  match cs,hlen,xs,hx8 with
  | [c0,c1,c2,c3,c4,c5,c6,c7,c8,c9,c10,c11,c12,c13],_,[x0,x1,x2,x3,x4,x5,x6,x7],_ =>
   generalize hcs : [c0,c1,c2,c3,c4,c5,c6,c7,c8,c9,c10,c11,c12,c13] = cs at hf
   have e0 : DataW.trod enc Tryz.prog w base sp held n 3 ((cs.drop 0).take (Tryz.prog.cellsOf 3)) = some x0 := hf 0 _ rfl
   have e1 : DataW.trod enc Tryz.prog w base sp held n 3 ((cs.drop 1).take (Tryz.prog.cellsOf 3)) = some x1 := hf 1 _ rfl
   have e2 : DataW.trod enc Tryz.prog w base sp held n 9 ((cs.drop 2).take (Tryz.prog.cellsOf 9)) = some x2 := hf 2 _ rfl
   have e3 : DataW.trod enc Tryz.prog w base sp held n 63 ((cs.drop 3).take (Tryz.prog.cellsOf 63)) = some x3 := hf 3 _ rfl
   have e4 : DataW.trod enc Tryz.prog w base sp held n 27 ((cs.drop 4).take (Tryz.prog.cellsOf 27)) = some x4 := hf 4 _ rfl
   have e5 : DataW.trod enc Tryz.prog w base sp held n 27 ((cs.drop 8).take (Tryz.prog.cellsOf 27)) = some x5 := hf 5 _ rfl
   have e6 : DataW.trod enc Tryz.prog w base sp held n 64 ((cs.drop 12).take (Tryz.prog.cellsOf 64)) = some x6 := hf 6 _ rfl
   have e7 : DataW.trod enc Tryz.prog w base sp held n 64 ((cs.drop 13).take (Tryz.prog.cellsOf 64)) = some x7 := hf 7 _ rfl
   clear hf
   subst hcs
   rw [cells3] at e0 e1
   rw [cells9] at e2
   rw [cells63] at e3
   rw [cells27] at e4 e5
   rw [cells64] at e6 e7
   simp only [List.drop_zero,List.drop_succ_cons,List.take_succ_cons,List.take_zero] at e0 e1 e2 e3 e4 e5 e6 e7
   obtain ⟨k,q0,r0,-⟩ := DataW.trod_int Tryz.underlying3 e0
   obtain ⟨g,q1,r1,-⟩ := DataW.trod_int Tryz.underlying3 e1
   obtain ⟨s,q2,r2,-⟩ := DataW.trod_string Tryz.underlying9 e2
   obtain ⟨v3,cp,pl,q3,o3,hc3,-,k3,hv3,b3⟩ := cell_of (f := Plc.av) (Q := Plc.Ok) (wt := Plc.wt) Tryz.underlying63 cells74 (by decide) (fun n _ => trod_plc n) e3
   obtain ⟨sz,k4,b4,hv4,o4⟩ := trod_idx' _ _ _ e4
   obtain ⟨to,k5,b5,hv5,o5⟩ := trod_idx' _ _ _ e5
   obtain ⟨v6,cb,body,q6,o6,hc6,-,k6,hv6,b6⟩ := cell_of (f := Stp.av) (Q := Stp.Ok) (wt := Stp.wt) Tryz.underlying64 cells66 (by decide) (fun m hm => ih m (by omega)) e6
   obtain ⟨v7,ce,els,q7,o7,hc7,-,k7,hv7,b7⟩ := cell_of (f := Stp.av) (Q := Stp.Ok) (wt := Stp.wt) Tryz.underlying64 cells66 (by decide) (fun m hm => ih m (by omega)) e7
   simp only [List.cons.injEq,and_true] at q0 q1 q2 q3 q6 q7
   subst q0 q1 q2 q3 q6 q7
   clear e0 e1 e2 e3 e4 e5 e6 e7
   refine ⟨.mk k g (s.data.toList.map UInt8.toNat) cp pl sz to cb body ce els,⟨okStr_bytes _,hc3,k3,k4,k5,hc6,oks_of_all _ k6,hc7,oks_of_all _ k7⟩,?_,?_,fun v hv => ?_⟩
   ·have := bulk_pos x0.1
    have := bulk_pos x1.1
    have := bulk_pos x2.1
    rw [total_plc] at b3
    rw [total_stp] at b6 b7
    simp only [Stp.wt,Rows.uptoBulk,Rows.uptoBulkAll,List.map_cons,List.map_nil]
    omega
   ·rw [Idx.av_four] at hv4 hv5
    rw [<- Stp.avs_eq] at hv6 hv7
    exact pw_app (a := [_,_,_,_] ++ sz.four ++ to.four) (b := [_,_,_,_,_,_,_,_,_,_,_,_]) (pw_app (a := [_,_,_,_] ++ sz.four) (b := [_,_,_,_,_,_,_,_]) (pw_app (a := [_,_,_,_]) (b := [_,_,_,_])
     (pw_app (a := [_]) (b := [_]) (pw_one (.int _ _ _)) (pw_app (a := [_]) (b := [_]) (pw_one (.int _ _ _)) (pw_app (a := [_]) (b := [_]) (pw_one (.str _ _ _ rfl)) (pw_one hv3)))) hv4) hv5) (pw_app (a := [_]) (b := [_]) (pw_one hv6) (pw_one hv7))
   ·have hv : v ∈ ([.int .i64 k,.int .i64 g,.string s,c3] : List Value) \/ v ∈ [c4,c5,c6,c7] \/ v ∈ [c8,c9,c10,c11] \/ v ∈ [c12,c13] := by
     simp only [List.mem_cons,List.not_mem_nil,or_false] at hv ⊢
     rcases hv with h | h | h | h | h | h | h | h | h | h | h | h | h | h <;> simp [h]
    rcases hv with hv | hv | hv | hv
    ·simp only [List.mem_cons,List.not_mem_nil,or_false] at hv
     rcases hv with rfl | rfl | rfl | rfl
     ·rfl
     ·rfl
     ·rfl
     ·exact o3
    ·exact o4 v hv
    ·exact o5 v hv
    ·simp only [List.mem_cons,List.not_mem_nil,or_false] at hv
     rcases hv with rfl | rfl
     ·exact o6
     ·exact o7
theorem trod_prc (fuel : Nat) (cs : List Value) (y : DataW H × List MemPlace) (h : DataW.trod enc Tryz.prog w base sp held fuel 70 cs = some y) :
  ∃ x : Prc,x.Ok /\ x.wt <= Rows.uptoBulk y.1 /\ PW (VR (ghW w) noLB) x.av.cells cs /\ ∀ v ∈ cs,v.oneCell' = true := by
 obtain ⟨xs,n,rfl,rfl,hlen,hxs,hf⟩ := DataW.trod_struct Tryz.underlying70 h
 rw [cells70] at hlen
 have hx3 : xs.length = 3 := by simpa using hxs
 match cs,hlen,xs,hx3 with
 | [c0,c1,c2],_,[x0,x1,x2],_ =>
  have e0 : DataW.trod enc Tryz.prog w base sp held n 9 (([c0,c1,c2].drop 0).take (Tryz.prog.cellsOf 9)) = some x0 := hf 0 _ rfl
  have e1 : DataW.trod enc Tryz.prog w base sp held n 68 (([c0,c1,c2].drop 1).take (Tryz.prog.cellsOf 68)) = some x1 := hf 1 _ rfl
  have e2 : DataW.trod enc Tryz.prog w base sp held n 64 (([c0,c1,c2].drop 2).take (Tryz.prog.cellsOf 64)) = some x2 := hf 2 _ rfl
  rw [cells9] at e0
  rw [cells68] at e1
  rw [cells64] at e2
  simp only [List.drop_zero,List.drop_succ_cons,List.take_succ_cons,List.take_zero] at e0 e1 e2
  obtain ⟨s,q0,r0,-⟩ := DataW.trod_string Tryz.underlying9 e0
  obtain ⟨v1,cp,ps,q1,o1,hc1,hn1,k1,hv1,b1⟩ := cell_of (f := Par.av) (Q := fun x => okStr x.name) (wt := fun _ => 1) Tryz.underlying68 cells76 (by decide) (fun n _ => trod_par n) e1
  obtain ⟨v2,cb,body,q2,o2,hc2,-,k2,hv2,b2⟩ := cell_of (f := Stp.av) (Q := Stp.Ok) (wt := Stp.wt) Tryz.underlying64 cells66 (by decide) (fun n _ => trod_stp n) e2
  simp only [List.cons.injEq,and_true] at q0 q1 q2
  subst q0 q1 q2
  rw [<- Stp.avs_eq] at hv2
  refine ⟨⟨s.data.toList.map UInt8.toNat,cp,ps,cb,body⟩,⟨okStr_bytes _,hc1,k1,hc2,oks_of_all _ k2,hn1⟩,?_,pw_app (a := [_]) (b := [_]) (pw_one (.str _ _ _ rfl)) (pw_app (a := [_]) (b := [_]) (pw_one hv1) (pw_one hv2)),fun v hv => ?_⟩
  ·have := bulk_pos x0.1
   rw [total_one] at b1
   rw [total_stp] at b2
   simp only [Prc.wt,Rows.uptoBulk,Rows.uptoBulkAll,List.map_cons,List.map_nil]
   omega
  ·simp only [List.mem_cons,List.not_mem_nil,or_false] at hv
   rcases hv with rfl | rfl | rfl
   ·rfl
   ·exact o1
   ·exact o2
theorem trod_prg (fuel : Nat) (cs : List Value) (y : DataW H × List MemPlace) (h : DataW.trod enc Tryz.prog w base sp held fuel 24 cs = some y) :
  ∃ (c : Cap) (ps : List Prc),okCap c /\ (∀ x ∈ ps,x.Ok) /\ prcsW ps <= Rows.uptoBulk y.1 /\ PW (VR (ghW w) noLB) (prgAV c ps).cells cs /\ ∀ v ∈ cs,v.oneCell' = true := by
 obtain ⟨xs,n,rfl,rfl,hlen,hxs,hf⟩ := DataW.trod_struct Tryz.underlying24 h
 rw [cells24] at hlen
 have hx1 : xs.length = 1 := by simpa using hxs
 match cs,hlen,xs,hx1 with
 | [c0],_,[x0],_ =>
  have e0 : DataW.trod enc Tryz.prog w base sp held n 22 (([c0].drop 0).take (Tryz.prog.cellsOf 22)) = some x0 := hf 0 _ rfl
  rw [cells22] at e0
  simp only [List.drop_zero,List.take_succ_cons,List.take_zero] at e0
  obtain ⟨v,c,ps,q0,o0,hc,-,k0,hv,b0⟩ := cell_of (f := Prc.av) (Q := Prc.Ok) (wt := Prc.wt) Tryz.underlying22 cells70 (by decide) (fun n _ => trod_prc n) e0
  simp only [List.cons.injEq,and_true] at q0
  subst q0
  refine ⟨c,ps,hc,k0,?_,pw_one hv,fun v hv => ?_⟩
  ·rw [total_prc] at b0
   simp only [Rows.uptoBulk,Rows.uptoBulkAll,List.map_cons,List.map_nil]
   omega
  ·simp only [List.mem_cons,List.not_mem_nil,or_false] at hv
   subst hv
   exact o0
end
end Go.Abs.Tz
set_option maxRecDepth 100000
namespace Go.Abs.Tz
open Go Go.Abs Go.Proofs Go.Proofs.YtiigojkfojnedaaGreatDoor Go.ChangeShapes Go.WideShapes Go.ChangeAt Go.RowKit
theorem agg_of_struct {w : World} {base : Nat} {t : TypeId} {fs : Array Field} {v : Value} (hu : Tryz.prog.underlying t = some (.struct fs)) (h : Value.okWide Tryz.prog w .any base t v) : ∃ cs,v = .agg cs := by
 unfold Value.okWide at h
 rw [hu] at h
 obtain ⟨cs,h,_⟩ := h
 exact ⟨cs,h⟩
theorem vr_agg {w : World} {l : List AV} {cs : Array Value} (h : PW (VR (ghW w) noLB) l (Value.agg cs).cells.toList) (hone : ∀ v ∈ (Value.agg cs).cells.toList,v.oneCell' = true) : VR (ghW w) noLB (.agg l) (.agg cs) := by
 have hc : (Value.agg cs).cells.toList = cs.toList := by simp [Value.cells]
 rw [hc] at h hone
 refine .agg _ _ _ (by simpa using h.1.symm) (fun i hi => hone _ (by simp)) (fun i hi hi' => ?_)
 have := h.2 i hi (by simpa using hi')
 simpa using this
theorem laidOut : laidOutB Tryz.prog = true := by kernel_rfl
theorem contract (H : Type) (enc : TypeId × Value -> H) (W : World) (base : Nat) (args : Array Value) (ds gs : List (DataW H)) (before : List MemPlace)
  (hval : ∀ (j : Nat) t v,Tryz.f3.params[j]? = some t -> args[j]? = some v -> Value.okWide Tryz.prog W .any base t v)
  (hW : DataW.Whole enc Tryz.prog Tryz.f3.params.toList Rows.langPrintsSpec.vars false W args.toList ds gs before)
  (hsm : Rows.uptoSmall H (ds ++ gs) = true) (hL : laidMetH Tryz.prog Rows.langPrintsUptoRow.laid W) :
  Calls Tryz.prog 3 args W fun e W' => ∃ v,e = .returned v /\ Rows.langPrintsSpec.post enc Tryz.prog Tryz.f3 false true false false W args v W' := by
 have hW' := hW
 obtain ⟨p,q,hA0,hV,rfl,hfz,hnd⟩ := hW
 have hA : DataW.TrodAll enc Tryz.prog W 0 (fun _ => true) true Tryz.f3.params.toList args.toList ds p := hA0
 rw [Tryz.params3] at hA hval
 obtain ⟨v0,v1,d0,d1,p0,p1,rfl,rfl,rfl,h0,h1⟩ := trodAll_two hA
 obtain ⟨rfl,rfl⟩ := trodVars_none hV
 have k0 := hval 0 24 v0 rfl rfl
 have k1 := hval 1 27 v1 rfl rfl
 obtain ⟨cs0,rfl⟩ := agg_of_struct Tryz.underlying24 k0
 obtain ⟨cs1,rfl⟩ := agg_of_struct Tryz.underlying27 k1
 obtain ⟨n0,t0⟩ := h0
 obtain ⟨n1,t1⟩ := h1
 obtain ⟨c,ps,hc,hps,hpw,w0,one0⟩ := trod_prg n0 _ _ t0
 obtain ⟨x,hx,hcnt,w1,one1⟩ := trod_idx' n1 _ _ t1
 have hbulk : Rows.uptoBulkAll [d0,d1] <= 1048576 := by
  have := of_decide_eq_true hsm
  simpa using this
 simp only [Rows.uptoBulkAll] at hbulk
 rw [MakeChecks.laidMetH_plain _ _ _ (by kernel_rfl)] at hL
 obtain ⟨u,hgl⟩ := gl_of_laid (by simp [Rows.langPrintsUptoRow]) (by simp [Rows.langPrintsUptoRow]) (by simp [Rows.langPrintsUptoRow]) hL
 have r0 : VR (ghW W) noLB (prgAV c ps) (.agg cs0) := vr_agg w0 one0
 have r1 : VR (ghW W) noLB x.av (.agg cs1) := by
  cases x with
  | mk a b s c l => exact vr_agg w1 one1
 have hargs : PW (VR (ghW W) noLB) [prgAV c ps,x.av] (#[.agg cs0,.agg cs1] : Array Value).toList := ⟨rfl,fun i hi hi' => by
  match i,hi with
  | 0,_ => exact r0
  | 1,_ => exact r1⟩
 dsimp only at hcnt hpw
 refine (calls_of_cvl Tryz.func3 rfl (by kernel_rfl) hgl hargs (f3 c hc ps hps (by omega) x hx.1 hx.2 (by omega))).mono fun e W' he => ?_
 obtain ⟨r,rfl,⟨g',hr⟩,hB⟩ := he
 cases hr
 have hlt : ∀ y : MemPlace,y ∈ p0 ++ p1 ++ [] -> y.block < W.heap.size := hW'.lt
 have b0 := Below.trod (t := 24) laidOut (by kernel_rfl) (of_decide_eq_true (by kernel_rfl)) ⟨n0,t0⟩ hB (fun y hy => hlt y (by simp [hy]))
 have b1 := Below.trod (t := 27) laidOut (by kernel_rfl) (of_decide_eq_true (by kernel_rfl)) ⟨n1,t1⟩ hB (fun y hy => hlt y (by simp [hy]))
 refine ⟨_,rfl,[d0,d1],[],_,[],_,[],hW',trodAll_mk1 (shut_bool Tryz.underlying4 _),trodAll_mk2 b0 b1,rfl,hB.frame _,fun h => by cases h⟩
end Go.Abs.Tz
