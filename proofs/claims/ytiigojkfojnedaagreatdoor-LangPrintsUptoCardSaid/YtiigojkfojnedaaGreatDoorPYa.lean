/- A text of this proof. -/
import Derived.Test.YtiigojkfojnedaaGreatDoorPLa
import Derived.Test.YtiigojkfojnedaaGreatDoorPVh
import Derived.Test.YtiigojkfojnedaaGreatDoorPHa
import Derived.Test.YtiigojkfojnedaaGreatDoorPZc
import Derived.Test.YtiigojkfojnedaaGreatDoorCards
import Derived.Test.YtiigojkfojnedaaGreatDoorTie
import Derived.WalkKit
import Derived.ProofKit
import Derived.OpenShut
import Derived.LaidMore
import Derived.Deep.DeepHandedRow
import Derived.Deep.DeepWitnessRowRef
import Derived.Lib.LaidTab
set_option linter.unusedVariables false
set_option linter.unusedSimpArgs false
set_option maxRecDepth 100000
namespace Go.Abs.Tz
open Go.Abs Go.Proofs Go.Proofs.YtiigojkfojnedaaGreatDoor
section
variable {H : Type} {enc : TypeId × Value -> H} {w : World} {base : Nat} {sp : Nat -> Bool} {held : Bool}
theorem cells27 : Tryz.prog.cellsOf 27 = 4 := by kernel_rfl
theorem cells25 : Tryz.prog.cellsOf 25 = 1 := by kernel_rfl
theorem cells9 : Tryz.prog.cellsOf 9 = 1 := by kernel_rfl
theorem cells3 : Tryz.prog.cellsOf 3 = 1 := by kernel_rfl
theorem bulk_pos (d : DataW H) : 1 <= Rows.uptoBulk d := by
 cases d with
 | lit l => cases l <;> simp [Rows.uptoBulk]
 | nil => simp [Rows.uptoBulk]
 | ptr d => simp [Rows.uptoBulk]
 | slice elems spare => simp [Rows.uptoBulk]
 | agg parts => simp [Rows.uptoBulk]
 | iface t d => simp [Rows.uptoBulk]
 | map entries => simp [Rows.uptoBulk]
 | held h => simp [Rows.uptoBulk]
theorem okStr_bytes (l : List UInt8) : okStr (l.map UInt8.toNat) := by
 intro b hb
 obtain ⟨x,-,rfl⟩ := List.mem_map.1 hb
 exact x.toNat_lt
def IsIdx (el : AV) (d : DataW H) : Prop := ∃ x : Idx,el = x.av /\ x.Ok2 /\ x.cnt <= Rows.uptoBulk d
theorem idx_list : ∀ (l : List AV) (ds : List (DataW H)),l.length = ds.length -> (∀ i (h : i < l.length) (h' : i < ds.length),IsIdx l[i] ds[i]) -> ∃ xs : List Idx,l = Idx.avs xs /\ (Idx.Oks xs /\ Idx.Strs xs) /\ Idx.cnts xs <= Rows.uptoBulkAll ds
 | [],[],_,_ => ⟨[],rfl,⟨trivial,trivial⟩,Nat.le_refl _⟩
 | a :: l,d :: ds,hl,h => by
  obtain ⟨x,h1,h2,h3⟩ := h 0 (by simp) (by simp)
  obtain ⟨xs,k1,k2,k3⟩ := idx_list l ds (by simpa using hl) (fun i hi hi' => h (i + 1) (Nat.succ_lt_succ hi) (Nat.succ_lt_succ hi'))
  simp only [List.getElem_cons_zero] at h1 h3
  exact ⟨x :: xs,by simp only [Idx.avs]; rw [h1,k1],⟨⟨h2.1,k2.1⟩,h2.2,k2.2⟩,by simp only [Idx.cnts,Rows.uptoBulkAll]; omega⟩
 | [],_ :: _,hl,_ => by simp at hl
 | _ :: _,[],hl,_ => by simp at hl
theorem trod_idx : ∀ (fuel : Nat) (cs : List Value) (y : DataW H × List MemPlace),DataW.trod enc Tryz.prog w base sp held fuel 27 cs = some y →
  ∃ el,IsIdx el y.1 /\ PW (VR (ghW w) noLB) el.cells cs /\ ∀ v ∈ cs,v.oneCell' = true := by
 intro fuel
 induction fuel using Nat.strongRecOn with
 | _ fuel ih =>
  intro cs y h
  obtain ⟨xs,n,rfl,rfl,hlen,hxs,hf⟩ := DataW.trod_struct Tryz.underlying27 h
  rw [cells27] at hlen
  have hx4 : xs.length = 4 := by simpa using hxs
  match cs,hlen with
  | [c0,c1,c2,c3],_ =>
   match xs,hx4 with
   | [x0,x1,x2,x3],_ =>
    have e0 : DataW.trod enc Tryz.prog w base sp held n 3 (([c0,c1,c2,c3].drop 0).take (Tryz.prog.cellsOf 3)) = some x0 := hf 0 _ rfl
    have e1 : DataW.trod enc Tryz.prog w base sp held n 3 (([c0,c1,c2,c3].drop 1).take (Tryz.prog.cellsOf 3)) = some x1 := hf 1 _ rfl
    have e2 : DataW.trod enc Tryz.prog w base sp held n 9 (([c0,c1,c2,c3].drop 2).take (Tryz.prog.cellsOf 9)) = some x2 := hf 2 _ rfl
    have e3 : DataW.trod enc Tryz.prog w base sp held n 25 (([c0,c1,c2,c3].drop 3).take (Tryz.prog.cellsOf 25)) = some x3 := hf 3 _ rfl
    rw [cells3] at e0 e1
    rw [cells9] at e2
    rw [cells25] at e3
    simp only [List.drop_zero,List.drop_succ_cons,List.take_succ_cons,List.take_zero] at e0 e1 e2 e3
    obtain ⟨k,q0,r0,-⟩ := DataW.trod_int Tryz.underlying3 e0
    obtain ⟨m,q1,r1,-⟩ := DataW.trod_int Tryz.underlying3 e1
    obtain ⟨s,q2,r2,-⟩ := DataW.trod_string Tryz.underlying9 e2
    obtain ⟨v,q3,hone,hv⟩ := vr_slice (A := IsIdx) Tryz.underlying25 cells27 (by decide) (fun n' hn' cs' y' ht' _ => ih n' (by omega) cs' y' ht') e3
    simp only [List.cons.injEq,and_true] at q0 q1 q2 q3
    subst q0 q1 q2 q3
    have fin : ∀ (c : Cap) (l : List Idx),okCap c -> Idx.Oks l /\ Idx.Strs l -> VR (ghW w) noLB (.list c (Idx.avs l)) c3 -> 1 + Idx.cnts l <= Rows.uptoBulk x3.1 + 1 →
      ∃ el,IsIdx el (DataW.agg ([x0,x1,x2,x3].map (·.1))) /\ PW (VR (ghW w) noLB) el.cells [.int .i64 k,.int .i64 m,.string s,c3] /\ ∀ v ∈ [Value.int .i64 k,.int .i64 m,.string s,c3],v.oneCell' = true := by
     intro c l hc hl hvr hcnt
     refine ⟨_,⟨.mk k m (s.data.toList.map UInt8.toNat) c l,rfl,⟨⟨hc,hl.1⟩,okStr_bytes _,hl.2⟩,?_⟩,⟨by simp [Idx.av,AV.cells],fun i hi hi' => ?_⟩,fun v hv => ?_⟩
     ·have := bulk_pos x0.1
      have := bulk_pos x1.1
      have := bulk_pos x2.1
      simp only [Idx.cnt,Rows.uptoBulk,Rows.uptoBulkAll,List.map_cons,List.map_nil]
      omega
     ·match i,hi' with
      | 0,_ => exact .int _ _ _
      | 1,_ => exact .int _ _ _
      | 2,_ => exact .str _ _ _ rfl
      | 3,_ => exact hvr
     ·simp only [List.mem_cons,List.not_mem_nil,or_false] at hv
      rcases hv with rfl | rfl | rfl | rfl
      ·rfl
      ·rfl
      ·rfl
      ·exact hone
    rcases hv with ⟨h1,h2⟩ | ⟨l,ds,rest,h1,h2,h3,h4⟩
    ·exact fin .nil [] (.inl rfl) ⟨trivial,trivial⟩ h1 (by simp [Idx.cnts])
    ·obtain ⟨ys,rfl,g2,g3⟩ := idx_list l ds h3 h4
     refine fin .any ys (.inr rfl) g2 h1 ?_
     rw [h2]
     simp only [Rows.uptoBulk]
     omega
def IsStr (el : AV) (d : DataW H) : Prop := ∃ bs : List UInt8,el = .str (bs.map UInt8.toNat) /\ d = .lit (.string bs)
theorem trod_strs {fuel : Nat} {cs : List Value} {y : DataW H × List MemPlace} (h : DataW.trod enc Tryz.prog w base sp held fuel 42 cs = some y) :
  ∃ v : Value,cs = [v] /\ v.oneCell' = true /\ ((VR (ghW w) noLB (.list .nil []) v /\ y.1 = .nil) \/ ∃ (l : List AV) (ds rest : List (DataW H)),VR (ghW w) noLB (.list .any l) v /\ y.1 = .slice ds rest /\ l.length = ds.length ∧
   ∀ i (h : i < l.length) (h' : i < ds.length),IsStr l[i] ds[i]) :=
 vr_slice (A := IsStr) Tryz.underlying42 cells9 (by decide) (fun n _ cs' y' ht _ => by
  obtain ⟨s,rfl,rfl,_⟩ := DataW.trod_string Tryz.underlying9 ht
  refine ⟨.str (s.data.toList.map UInt8.toNat),⟨_,rfl,rfl⟩,⟨rfl,fun i hi hi' => ?_⟩,fun v hv => ?_⟩
  ·match i,hi' with
   | 0,_ => exact .str _ _ _ rfl
  ·simp only [List.mem_cons,List.not_mem_nil,or_false] at hv; subst hv; rfl) h
end
end Go.Abs.Tz
set_option maxRecDepth 100000
namespace Go.Abs.Tz
open Go.Abs Go.Proofs Go.Proofs.YtiigojkfojnedaaGreatDoor
open Go.RowKit (Below)
theorem laid_mem {P : Program} {w : World} : ∀ {l : List (String × DataW Unit)} {ps : List MemPlace},DataW.LaidVars P w l ps -> ∀ {n : String} {d : DataW Unit},(n,d) ∈ l →
  ∃ g t cs fuel p,P.globalNamed n = some g /\ (P.globals[g]?).map (·.type) = some t /\ w.var? P n = some cs /\ DataW.trod (fun _ => ()) P w 0 (fun _ => true) false fuel t cs.toList = some (d,p) /\ ∀ i,i < cs.size -> MemPlace.cell g i ∈ ps := by
 intro l
 induction l with
 | nil => intro ps _ n d hm; cases hm
 | cons x r ih =>
  obtain ⟨n0,d0⟩ := x
  rintro ps ⟨g,t,cs,fuel,p,q,h1,h2,h3,h4,h5,rfl⟩ n d hm
  rcases List.mem_cons.1 hm with he | hm
  ·cases he
   refine ⟨g,t,cs,fuel,p,h1,h2,h3,h4,fun i hi => ?_⟩
   simp only [List.mem_append]
   left; left
   simp only [MemPlace.row,List.mem_map,List.mem_range]
   exact ⟨i,hi,by simp⟩
  ·obtain ⟨g',t',cs',fuel',p',k1,k2,k3,k4,k5⟩ := ih h5 hm
   exact ⟨g',t',cs',fuel',p',k1,k2,k3,k4,fun i hi => List.mem_append_right _ (k5 i hi)⟩
theorem strs_exact {H : Type} : ∀ (texts : List (List UInt8)) (l : List AV),l.length = texts.length -> (∀ i (h : i < l.length) (h' : i < texts.length),IsStr (H := H) l[i] (.lit (.string texts[i]))) -> l = texts.map fun bs => AV.str (bs.map UInt8.toNat)
 | [],[],_,_ => rfl
 | t :: ts,a :: l,hl,h => by
  obtain ⟨bs,h1,h2⟩ := h 0 (by simp) (by simp)
  simp only [List.getElem_cons_zero] at h1 h2
  cases h2
  have := strs_exact ts l (by simpa using hl) (fun i hi hi' => h (i + 1) (Nat.succ_lt_succ hi) (Nat.succ_lt_succ hi'))
  rw [List.map_cons,<- this,h1]
 | [],_ :: _,hl,_ => by simp at hl
 | _ :: _,[],hl,_ => by simp at hl
theorem glob_strs {w : World} {n : String} {g : Nat} {cs : Array Value} {fuel : Nat} {texts : List (List UInt8)} {rest : List (DataW Unit)} {p : List MemPlace} (hg : Tryz.prog.globalNamed n = some g) (hv : w.var? Tryz.prog n = some cs)
  (ht : DataW.trod (fun _ => ()) Tryz.prog w 0 (fun _ => true) false fuel 42 cs.toList = some (.slice (texts.map fun bs => .lit (.string bs)) rest,p)) :
  VR (ghW w) noLB (.ref [.list .any (texts.map fun bs => AV.str (bs.map UInt8.toNat))]) (.pointer (some ⟨g,0,none⟩)) := by
 obtain ⟨v,h1,h2,h3⟩ := trod_strs ht
 rcases h3 with ⟨_,h3⟩ | ⟨l,ds,rest',h3,h4,h5,h6⟩
 ·cases h3
 ·simp only [DataW.slice.injEq] at h4
  obtain ⟨rfl,_⟩ := h4
  have hl : l = texts.map fun bs => AV.str (bs.map UInt8.toNat) := strs_exact (H := Unit) texts l (by simpa using h5) (fun i hi hi' => by
   have := h6 i hi (by simpa using hi')
   rw [List.getElem_map] at this
   exact this)
  subst hl
  have hc : w.cell? ⟨g,0,none⟩ = some v := by
   rw [World.var?_cell hg hv 0,<- Array.getElem?_toList,h1]; rfl
  refine .ref _ _ g 0 (fun _ => v) (fun i hi => ⟨?_,h2⟩) (fun i hi => ?_)
  ·have : i = 0 := by simpa using hi
   subst this; exact hc
  ·have : i = 0 := by simpa using hi
   subst this; exact h3
def textsG : List (List UInt8) := [[120],[121],[122],[104],[115],[115,100],[116],[116,100],[99,120],[99,122],[115,119,97,112],[99,99,120]]
def textsK : List (List UInt8) := [[112,114,111,99],[116,97,107,101],[100,114,111,112],[98,111,114,114,111,119],[109,101,97,115,117,114,101],[114,101,115,101,116],[105,102],[101,108,115,101],[102,111,114],[117,110,100,111],[119,105,116,104,105,110],[97,112,112,108,121]]
theorem laidG {H : Type} : Rows.laid_spoondrift_lang_gates (H := H) = .slice (textsG.map fun bs => .lit (.string bs)) [] := rfl
theorem laidK {H : Type} : Rows.laid_spoondrift_lang_keywords (H := H) = .slice (textsK.map fun bs => .lit (.string bs)) [] := rfl
theorem glb0 (u : Nat) : gl u 0 = .ref [.list .any (textsG.map fun bs => AV.str (bs.map UInt8.toNat))] := by kernel_rfl
theorem glb1 (u : Nat) : gl u 1 = .ref [.list .any (textsK.map fun bs => AV.str (bs.map UInt8.toNat))] := by kernel_rfl
theorem ptr_type {P : Program} {w : World} {fuel : Nat} {u : TypeId} {cs : List Value} {x : DataW Unit × List MemPlace} {d : DataW Unit} (h : DataW.trod (fun _ => ()) P w 0 (fun _ => true) false fuel u cs = some x) (hd : x.1 = .ptr d) : ∃ e,P.underlying u = some (.pointer e) := by
 cases fuel with
 | zero => simp [DataW.trod] at h
 | succ n =>
  unfold DataW.trod at h
  dsimp only at h
  split at h
  all_goals first
   | exact ⟨_,‹P.underlying u = some (.pointer _)›⟩
   | (
     exfalso
     (repeat' split at h) <;> first
     | (cases h; done)
     | (simp only [Option.some.injEq] at h; subst h; cases hd; done)
     | (simp only [Option.map_eq_some_iff,Option.bind_eq_some_iff] at h; grind)
     | grind)
theorem glob_err {w : World} {cs : Array Value} {fuel : Nat} {nm : String} {d : DataW Unit} {p : List MemPlace} (hg : Tryz.prog.globalNamed "strconv.ErrSyntax" = some 8) (hv : w.var? Tryz.prog "strconv.ErrSyntax" = some cs)
  (ht : DataW.trod (fun _ => ()) Tryz.prog w 0 (fun _ => true) false fuel 153 cs.toList = some (.iface nm (.ptr d),p))
  (hok : cs.size = 1 -> ∀ u v,w.cell? ⟨8,0,none⟩ = some (.iface u v) -> Value.okWide Tryz.prog w .any 0 u v) :
  ∃ u,VR (ghW w) noLB (.ref [.iface u .junk]) (.pointer (some ⟨8,0,none⟩)) := by
 cases fuel with
 | zero => simp [DataW.trod] at ht
 | succ n =>
  have hu := Tryz.underlying153
  obtain ⟨u,v,hcs,m,e,hue⟩ : ∃ u v,cs.toList = [.iface u v] /\ ∃ (m : Nat) (e : TypeId),Tryz.prog.underlying u = some (.pointer e) := by
   unfold DataW.trod at ht
   rw [hu] at ht
   split at ht <;> first | (cases ht; done) | (simp_all; done) | skip
   refine ⟨_,_,‹cs.toList = [Value.iface _ _]›,0,?_⟩
   split at ht <;> first | (cases ht; done) | skip
   simp only [Option.map_eq_some_iff,Prod.mk.injEq,DataW.iface.injEq] at ht
   obtain ⟨x,hx,⟨_,hd⟩,_⟩ := ht
   exact ptr_type hx hd
  have hc : w.cell? ⟨8,0,none⟩ = some (.iface u v) := by
   rw [World.var?_cell hg hv 0,<- Array.getElem?_toList,hcs]; rfl
  have hs : cs.size = 1 := by
   have := congrArg List.length hcs
   simpa using this
  have hone : v.oneCell' = true := by
   have hw := hok hs _ _ hc
   unfold Value.okWide at hw
   rw [hue] at hw
   unfold Cell.okWide at hw
   rw [hue] at hw
   dsimp only at hw
   unfold Cell.ok at hw
   rw [hue] at hw
   cases v <;> first | rfl | (simp at hw; done)
  refine ⟨u,.ref _ _ 8 0 (fun _ => .iface u v) (fun i hi => ⟨?_,rfl⟩) (fun i hi => ?_)⟩
  ·have : i = 0 := by simpa using hi
   subst this; exact hc
  ·have : i = 0 := by simpa using hi
   subst this; exact .iface _ _ _ _ (.junk _ _ hone)
theorem gNames : Tryz.prog.globalNamed "spoondrift/lang.gates" = some 0 /\ Tryz.prog.globalNamed "spoondrift/lang.keywords" = some 1 /\ Tryz.prog.globalNamed "strconv.ErrSyntax" = some 8 := ⟨by kernel_rfl,by kernel_rfl,by kernel_rfl⟩
theorem gTypes : (Tryz.prog.globals[0]?).map (·.type) = some 42 /\ (Tryz.prog.globals[1]?).map (·.type) = some 42 /\ (Tryz.prog.globals[8]?).map (·.type) = some 153 := ⟨by kernel_rfl,by kernel_rfl,by kernel_rfl⟩
theorem gl_of_laid {w : World} {l : List (String × DataW Unit)} (hG : ("spoondrift/lang.gates",Rows.laid_spoondrift_lang_gates) ∈ l) (hK : ("spoondrift/lang.keywords",Rows.laid_spoondrift_lang_keywords) ∈ l) (hE : ("strconv.ErrSyntax",Rows.laid_strconv_ErrSyntax) ∈ l)
  (h : laidMet Tryz.prog l w) : ∃ u,GlR (ghW w) (gl u) := by
 obtain ⟨ps,hL,_,hps⟩ := h
 obtain ⟨u,z8⟩ : ∃ u,VR (ghW w) noLB (.ref [.iface u .junk]) (.pointer (some ⟨8,0,none⟩)) := by
  obtain ⟨g,t,cs,fuel,p,h1,h2,h3,h4,h5⟩ := laid_mem hL hE
  rw [gNames.2.2] at h1; cases h1
  rw [gTypes.2.2] at h2; cases h2
  exact glob_err gNames.2.2 h3 h4 fun hs u v hc => (hps 8 0 (h5 0 (by omega))).2 u v hc
 refine ⟨u,?_⟩
 have z0 : VR (ghW w) noLB (gl u 0) (.pointer (some ⟨0,0,none⟩)) := by
  obtain ⟨g,t,cs,fuel,p,h1,h2,h3,h4,-⟩ := laid_mem hL hG
  rw [gNames.1] at h1; cases h1
  rw [gTypes.1] at h2; cases h2
  rw [laidG] at h4
  rw [glb0]
  exact glob_strs gNames.1 h3 h4
 have z1 : VR (ghW w) noLB (gl u 1) (.pointer (some ⟨1,0,none⟩)) := by
  obtain ⟨g,t,cs,fuel,p,h1,h2,h3,h4,-⟩ := laid_mem hL hK
  rw [gNames.2.1] at h1; cases h1
  rw [gTypes.2.1] at h2; cases h2
  rw [laidK] at h4
  rw [glb1]
  exact glob_strs gNames.2.1 h3 h4
 intro n
 by_cases n0 : n = 0
 ·subst n0; exact z0
 by_cases n1 : n = 1
 ·subst n1; exact z1
 by_cases n8 : n = 8
 ·subst n8; exact z8
 ·have : gl u n = .junk := by
   have e0 : Nat.beq n 0 = false := by cases hb : Nat.beq n 0 with | false => rfl | true => exact absurd (Nat.eq_of_beq_eq_true hb) n0
   have e1 : Nat.beq n 1 = false := by cases hb : Nat.beq n 1 with | false => rfl | true => exact absurd (Nat.eq_of_beq_eq_true hb) n1
   have e8 : Nat.beq n 8 = false := by cases hb : Nat.beq n 8 with | false => rfl | true => exact absurd (Nat.eq_of_beq_eq_true hb) n8
   simp only [gl,e0,e1,e8,cond_false]
  rw [this]
  exact .junk _ _ rfl
theorem calls_of_cvl {u : Nat} {f : FuncId} {fn : Func} {w : World} {args : List AV} {vargs : Array Value} {r : AV} {m' : Mem} (hf : Tryz.prog.funcs[f]? = some fn) (hb : fn.body.isNone = false) (hn : (fn.name == "runtime.NumGoroutine") = false)
  (hgl : GlR (ghW w) (gl u)) (hargs : PW (VR (ghW w) noLB) args vargs.toList) (h : cvl (C u) (.fn (.func f) [] []) args { blks := [],touched := [] } = some (r,m')) :
  Calls Tryz.prog f vargs w fun e w' => ∃ x,e = .returned x /\ (∃ g',VR g' noLB r x) /\ Below w.heap.size w w' := by
 obtain ⟨k,hk⟩ := cvl_iff.1 h
 have hfn : VR (ghW w) noLB (.fn (.func f) [] []) (.func (.func f) #[] #[]) := .fn _ _ _ _ _ _ _ rfl rfl rfl (fun i hi => by simp at hi) (fun i hi => by simp at hi)
 have hc := C_call w.heap.size u k 0 (ghW w) noLB (fun _ => none) { blks := [],touched := [] } w _ _ _ _ _ vargs (memR_ghW w _ _) (ownR_none w) hgl hfn hargs hk
 have hrun : (do let d <- Deferred.ofValue (.func (.func f) #[] #[]) vargs; invoke d.target d.args : Sem Next).run Tryz.prog w = .ok (.enter f vargs) w := by
  have h1 : (do let d <- Deferred.ofValue (.func (.func f) #[] #[]) vargs; invoke d.target d.args : Sem Next).run Tryz.prog w = (callFunc f (#[] ++ vargs ++ #[])).run Tryz.prog w := by
   simp only [Deferred.ofValue,Sem.run_bind,Sem.run_pure,Result.andThen_ok,invoke]
  rw [h1]
  have h2 : (#[] ++ vargs ++ #[] : Array Value) = vargs := by simp
  rw [h2]
  exact run_callFunc hf hb hn
 unfold Called at hc
 rw [hrun] at hc
 rcases hc with ⟨f',vs,h1,h2⟩ | ⟨x,w',h1,h2⟩ | ⟨l,f',tmps,asg,bod,h1,h2⟩
 ·simp only [Result.ok.injEq,Next.enter.injEq,and_true] at h1
  obtain ⟨rfl,rfl⟩ := h1
  refine (callsIn_wide.1 h2).mono fun e w' he => ?_
  obtain ⟨x,rfl,g',own',hs,hm,hv,ho,-,-⟩ := he
  exact ⟨x,rfl,⟨g',hv⟩,hs.below (own := ownM fun _ => none) ⟨fun b o hb => by simp [ownM] at hb,Nat.le_refl _⟩⟩
 ·cases h1
 ·cases h1
end Go.Abs.Tz
