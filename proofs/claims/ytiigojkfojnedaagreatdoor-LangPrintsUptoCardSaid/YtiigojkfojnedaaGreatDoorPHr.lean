/- A text of this proof. -/
import Derived.Test.YtiigojkfojnedaaGreatDoorPHc
set_option linter.unusedVariables false
set_option linter.unusedSimpArgs false
set_option maxRecDepth 100000
namespace Go.Abs.Tz
open Go.Abs
def lookR (n : Nme) (d : Int) : What := if n.w = 1 \/ n.w = 3 then .reg false else if n.w = 2 then .reg (decide (n.d = d)) else if n.w = 4 then .bit else if n.w = 5 then .turn else .none
structure RScope (l : List Nme) (d : Int) (L : Look) : Prop where
 look : ∀ s,L s = lookR (findN l s) d
 ws : ∀ x ∈ l,1 <= x.w /\ x.w <= 5
 ds : ∀ x ∈ l,x.d <= d
theorem findN_mem (l : List Nme) (s : List Nat) : findN l s = ⟨[],0,0⟩ \/ (findN l s ∈ l /\ (findN l s).name = s) := by
 induction l with
 | nil => exact .inl rfl
 | cons a l ih =>
  simp only [findN]
  split
  ·rename_i h; exact .inr ⟨by simp,h⟩
  ·rcases ih with h | ⟨h,h'⟩
   ·exact .inl h
   ·exact .inr ⟨by simp [h],h'⟩
theorem findN_append (l : List Nme) (x : Nme) (s : List Nat) : findN (l ++ [x]) s = if ∃ y ∈ l,y.name = s then findN l s else if x.name = s then x else ⟨[],0,0⟩ := by
 induction l with
 | nil => simp [findN]
 | cons a l ih =>
  simp only [List.cons_append,findN]
  by_cases h : a.name = s
  ·simp [h]
  ·simp only [h,if_false,ih]
   by_cases h2 : ∃ y ∈ l,y.name = s
   ·simp [h2]
   ·simp [h2,h]
theorem findN_none {l : List Nme} {s : List Nat} (h : ¬ ∃ y ∈ l,y.name = s) : findN l s = ⟨[],0,0⟩ := by
 rcases findN_mem l s with h1 | ⟨h1,h2⟩
 ·exact h1
 ·exact absurd ⟨_,h1,h2⟩ h
theorem findN_filter (l : List Nme) (t s : List Nat) : findN (l.filter fun x => x.name != t) s = if s = t then ⟨[],0,0⟩ else findN l s := by
 induction l with
 | nil => simp [findN]
 | cons a l ih =>
  by_cases h : a.name = t
  ·simp only [List.filter_cons,h,bne_self_eq_false,Bool.false_eq_true,if_false,ih,findN]
   by_cases h2 : s = t
   ·simp [h2]
   ·simp [h2,Ne.symm h2]
  ·have : (a.name != t) = true := by simpa using h
   simp only [List.filter_cons,this,if_true,findN,ih]
   by_cases h2 : s = t
   ·subst h2; simp [h]
   ·by_cases h3 : a.name = s <;> simp [h2,h3]
theorem RScope.none_iff {l : List Nme} {d : Int} {L : Look} (h : RScope l d L) (s : List Nat) : L s = .none ↔ (findN l s).w = 0 := by
 rw [h.look]
 rcases findN_mem l s with h1 | ⟨h1,_⟩
 ·simp [h1,lookR]
 ·have := h.ws _ h1
  unfold lookR
  constructor
  ·intro he; (repeat' split at he) <;> first | (cases he; done) | omega
  ·intro he; omega
theorem RScope.none_not {l : List Nme} {d : Int} {L : Look} (h : RScope l d L) {s : List Nat} (hs : L s = .none) : ¬ ∃ y ∈ l,y.name = s := by
 rintro ⟨y,hy,he⟩
 have h0 := (h.none_iff s).1 hs
 rcases findN_mem l s with h1 | ⟨h1,_⟩
 ·
  have go : ∀ l : List Nme,y ∈ l -> (∀ x ∈ l,1 <= x.w /\ x.w <= 5) -> (findN l s).w ≠ 0 := by
   intro l
   induction l with
   | nil => intro h; cases h
   | cons a l ih =>
    intro hm hw
    simp only [findN]
    split
    ·have := hw a (by simp); omega
    ·rename_i hne
     rcases List.mem_cons.1 hm with rfl | hm
     ·exact absurd he hne
     ·exact ih hm fun x hx => hw x (by simp [hx])
  exact go l hy h.ws h0
 ·have := h.ws _ h1; omega
theorem RScope.put {l : List Nme} {d : Int} {L : Look} (h : RScope l d L) {s : List Nat} (hs : L s = .none) (w : Int) (hw : 1 <= w /\ w <= 5) : RScope (l ++ [⟨s,w,d⟩]) d (L.put s (lookR ⟨s,w,d⟩ d)) := by
 have hn := h.none_not hs
 refine ⟨fun t => ?_,fun x hx => ?_,fun x hx => ?_⟩
 ·rw [findN_append]
  simp only [Look.put]
  by_cases ht : t = s
  ·subst ht; simp [hn]
  ·simp only [ht,if_false]
   by_cases h2 : ∃ y ∈ l,y.name = t
   ·simp only [h2,if_true]; exact h.look t
   ·simp only [h2,if_false,Ne.symm ht,if_false]
    rw [h.look t,findN_none h2]
 ·rcases List.mem_append.1 hx with hx | hx
  ·exact h.ws x hx
  ·simp at hx; subst hx; exact hw
 ·rcases List.mem_append.1 hx with hx | hx
  ·exact h.ds x hx
  ·simp at hx; subst hx; exact Int.le_refl _
theorem RScope.del {l : List Nme} {d : Int} {L : Look} (h : RScope l d L) (s : List Nat) : RScope (l.filter fun x => x.name != s) d (L.put s .none) := by
 refine ⟨fun t => ?_,fun x hx => h.ws x (List.mem_filter.1 hx).1,fun x hx => h.ds x (List.mem_filter.1 hx).1⟩
 rw [findN_filter]
 simp only [Look.put]
 by_cases ht : t = s
 ·simp [ht,lookR]
 ·simp [ht,h.look t]
theorem RScope.inner {l : List Nme} {d : Int} {L : Look} (h : RScope l d L) : RScope l (d + 1) L.inner := by
 refine ⟨fun t => ?_,h.ws,fun x hx => by have := h.ds x hx; omega⟩
 simp only [Look.inner,h.look t]
 rcases findN_mem l t with h1 | ⟨h1,_⟩
 ·simp [h1,lookR]
 ·have hd := h.ds _ h1
  have hne : ¬ (findN l t).d = d + 1 := by omega
  unfold lookR
  (repeat' split) <;> simp_all
theorem put_inner (L : Look) (s : List Nat) (h : L s = .none) : L.inner s = .none := by simp [Look.inner,h]
theorem RScope.empty (d : Int) : RScope [] d noL := ⟨fun _ => rfl,fun _ h => (by cases h),fun _ h => (by cases h)⟩
theorem put_same (L : Look) (s : List Nat) (w : What) (h : L s = w) : L.put s w = L := by
 funext t
 simp only [Look.put]
 split
 ·rename_i he; rw [he,h]
 ·rfl
def Named (L : Look) : Prop := ∀ s,L s ≠ .none -> s.length <= 8
theorem namedB_len {s : List Nat} (h : namedB s = true) : s.length <= 8 := by
 simp only [namedB,Bool.and_eq_true,decide_eq_true_eq] at h; exact h.1.1.1.2
theorem Named.put {L : Look} (h : Named L) {s : List Nat} (hs : s.length <= 8) (w : What) : Named (L.put s w) := by
 intro t ht
 simp only [Look.put] at ht
 split at ht
 ·rename_i he; rw [he]; exact hs
 ·exact h t ht
theorem Named.del {L : Look} (h : Named L) (s : List Nat) : Named (L.put s .none) := by
 intro t ht
 simp only [Look.put] at ht
 split at ht
 ·exact absurd rfl ht
 ·exact h t ht
theorem Named.inner {L : Look} (h : Named L) : Named L.inner := by
 intro t ht
 refine h t fun he => ht ?_
 simp [Look.inner,he]
theorem newE_zero {L : Look} {s : List Nat} (h : newE L s = 0) : namedB s = true /\ L s = .none := by
 unfold newE at h
 split at h
 ·cases h
 ·rename_i h1
  split at h
  ·cases h
  ·rename_i h2
   exact ⟨by simpa using h1,by simpa using h2⟩
end Go.Abs.Tz
set_option maxRecDepth 100000
set_option maxHeartbeats 4000000
namespace Go.Abs.Tz
open Go.Abs
variable {u : Nat}
attribute [local simp] exec aops astep wantedA aop evO setO setU getE getE_setE lget lget_lset aBin aInt aUn AV.cells newVar padd rd wr asElem single splice aStr adraw ascan Runs gets RV.get tupled frz_int frz_bool
theorem find_cases {l : List Nme} {d : Int} {L : Look} (h : RScope l d L) (s : List Nat) : ∃ nn w e,findN l s = ⟨nn,w,e⟩ /\ 0 <= w /\ w <= 5 /\ L s = lookR ⟨nn,w,e⟩ d /\ (w = 0 -> e = 0) := by
 rcases hx : findN l s with ⟨nn,w,e⟩
 refine ⟨nn,w,e,rfl,?_⟩
 have hl := h.look s
 rw [hx] at hl
 rcases findN_mem l s with h1 | ⟨h1,_⟩
 ·rw [hx] at h1; cases h1; exact ⟨by decide,by decide,hl,fun _ => rfl⟩
 ·have := h.ws _ h1
  rw [hx] at this
  dsimp only at this
  exact ⟨by omega,by omega,hl,fun h0 => by omega⟩
theorem f260 (c : Cap) (hc : okCap c) (l : List Nme) (d : Int) (L : Look) (hs : RScope l d L) (s : List Nat) (hl : l.length < 1000000000000) (m : Mem) : cvl (C u) (.fn (.func 260) [] []) [nmsAV c l,.str s] m = some (.bool (L s).isReg,m) := by
 have e := f165 (u := u) c hc l s hl
 refine call_runs (g := g260) (by rfl) (by rfl) (by rfl) ?_
 simp only [List.map_cons,List.map_nil,exp_nms hc]
 simp only [exp,g260,c260]
 obtain ⟨nn,w,e',hf,h0,h5,hL,-⟩ := find_cases hs s
 rw [hf] at e
 rw [hL]
 simp only [Nme.av] at e
 have hw : w = 0 \/ w = 1 \/ w = 2 \/ w = 3 \/ w = 4 \/ w = 5 := by omega
 rcases hw with rfl | rfl | rfl | rfl | rfl | rfl <;> simp [e,lookR,What.isReg]
theorem f259 (c : Cap) (hc : okCap c) (l : List Nme) (d : Int) (L : Look) (hs : RScope l d L) (s : List Nat) (hl : l.length < 1000000000000) (m : Mem) : cvl (C u) (.fn (.func 259) [] []) [nmsAV c l,.str s] m = some (.int .i64 (newE L s),m) := by
 have e := f165 (u := u) c hc l s hl
 have e2 := f164 (u := u) s
 refine call_runs (g := g259) (by rfl) (by rfl) (by rfl) ?_
 simp only [List.map_cons,List.map_nil,exp_nms hc]
 simp only [exp,g259,c259]
 obtain ⟨nn,w,e',hf,h0,h5,hL,-⟩ := find_cases hs s
 rw [hf] at e
 simp only [Nme.av] at e
 simp only [newE,hL]
 cases hn : namedB s with
 | false => rw [hn] at e2; simp [e,e2]
 | true =>
  rw [hn] at e2
  have hw : w = 0 \/ w = 1 \/ w = 2 \/ w = 3 \/ w = 4 \/ w = 5 := by omega
  rcases hw with rfl | rfl | rfl | rfl | rfl | rfl <;> simp [e,e2,lookR]
theorem f169 (c : Cap) (hc : okCap c) (ns : List Nme) (d : Int) (L : Look) (hs : RScope ns d L) (hl : ns.length < 1000000000000) (x : Idx) : x.Ok -> x.cnt < 1000000000000 -> ∀ m,
  cvl (C u) (.fn (.func 169) [] []) [x.av,nmsAV c ns,.bool true] m = some (.int .i64 (x.part (mayOf L) 1),m) := by
 refine Idx.ind' (Q := fun x => x.Ok -> x.cnt < 1000000000000 -> ∀ m,cvl (C u) (.fn (.func 169) [] []) [x.av,nmsAV c ns,.bool true] m = some (.int .i64 (x.part (mayOf L) 1),m)) (fun k n s cc l ih hok hcnt m => ?_) x
 have hsh := fun m => f181 (u := u) k n s cc l m hok
 have e := f165 (u := u) c hc ns s hl
 simp only [Idx.cnt] at hcnt
 have hll := Idx.cnts_ge l
 refine call_runs (g := g169) (by rfl) (by rfl) (by rfl) ?_
 simp only [List.map_cons,List.map_nil,Idx.exp_av _ _ _ hok,exp_nms hc]
 simp only [exp,g169,c169,Idx.part]
 simp only [Idx.av] at hsh ⊢
 let K : St -> Prop := fun st => getE st.env 1 = nmsAV c ns /\ getE st.env 2 = .bool true /\ getE st.env 3 = .lptr 3 0 0 /\ lget st.loc 3 = some (0,.cells [.int .i64 k,.int .i64 n,.str s,.list cc (Idx.avs l)]) /\ st.mem = { blks := m.blks,touched := [] }
 refine Runs.seq' (M := K) (by simp [K,newVer]) fun s1 ⟨h1,h2,h3,h4,h5⟩ => ?_
 by_cases hs0 : shapeE k n l.length = 0
 case neg =>
  refine Runs.seq (M := fun _ => False) ?_ fun _ h => h.elim
  simp [h1,h2,h3,h4,h5,hsh,bne_true hs0,hs0]
 rw [hs0] at hsh
 refine Runs.seq' (M := K) (by simp [K,h1,h2,h3,h4,h5,hsh]) fun s1 ⟨h1,h2,h3,h4,h5⟩ => ?_
 obtain ⟨nn,w,e',hf,h0,h5',hL,-⟩ := find_cases hs s
 rw [hf] at e
 simp only [Nme.av] at e
 have hmay : mayOf L s = decide (w = 5) := by
  simp only [mayOf,hL,lookR]
  have hw : w = 0 \/ w = 1 \/ w = 2 \/ w = 3 \/ w = 4 \/ w = 5 := by omega
  rcases hw with rfl | rfl | rfl | rfl | rfl | rfl <;> simp
 by_cases hk2 : k = 2 /\ w ≠ 5
 ·obtain ⟨rfl,hw5⟩ := hk2
  refine Runs.seq (M := fun _ => False) ?_ fun _ h => h.elim
  simp [h1,h2,h3,h4,h5,e,bne_true hw5,hs0,hmay,hw5]
 have hgoal : (if shapeE k n l.length ≠ 0 then shapeE k n l.length else if k = 2 /\ mayOf L s = false then 1 else Idx.parts (mayOf L) 1 l) = first (Idx.part (mayOf L) 1) l := by
  rw [if_neg (by simpa using hs0),if_neg (by rw [hmay]; simpa using hk2),parts_first]
 rw [hgoal]
 refine Runs.seq' (M := K) (by
  by_cases hk : k = 2
  ·subst hk
   have : w = 5 := by simpa using hk2
   subst this
   simp [K,h1,h2,h3,h4,h5,e]
  ·simp [K,h1,h2,h3,h4,h5,ne_true hk]) fun s1 ⟨h1,h2,h3,h4,h5⟩ => ?_
 refine Runs.seq' (M := K) (by
  by_cases hk : k = 2
  ·subst hk; simp [K,h1,h2,h3,h4,h5]
  ·simp [K,h1,h2,h3,h4,h5,ne_true hk]) fun s1 ⟨h1,h2,h3,h4,h5⟩ => ?_
 refine Runs.seq (M := fun st => K st /\ first (Idx.part (mayOf L) 1) l = 0) ?_ fun s2 ⟨⟨h1,h2,h3,h4,h5⟩,h6⟩ => by simp [h5,h6]
 let I : Nat -> St -> Prop := fun i st => K st /\ getE st.env 8 = .int .i64 i /\ ∀ j (hj : j < l.length),j < i -> (l[j]).part (mayOf L) 1 = 0
 refine Runs.seq' (M := I 0) (by simp [I,K,h1,h2,h3,h4,h5]) fun s4 hI => ?_
 refine Runs.block (Runs.loop (I := I) l.length hI fun i st hi hst => ?_)
 obtain ⟨⟨h1,h2,h3,h4,h5⟩,q1,q2⟩ := hst
 rcases Nat.lt_or_ge i l.length with hlt | hge
 ·have hw : IntKind.wrap .i64 ((i : Int) + 1) = (i : Int) + 1 := wrap_i64 (by omega) (by omega)
  have hg := avs_get l i hlt
  have hm : l[i] ∈ l := List.getElem_mem hlt
  have hx := ih _ hm (Idx.oks_mem hok.2 _ hm) (by have := Idx.cnt_mem hm; omega)
  by_cases hz : (l[i]).part (mayOf L) 1 = 0
  ·left
   refine ⟨hlt,?_⟩
   have q5 := before_succ (P := fun j => ∀ hj : j < l.length,(l[j]).part (mayOf L) 1 = 0) (n := l.length) (fun j a b c => q2 j c b) (fun _ => hz)
   rw [hz] at hx
   generalize l[i] = y at hg hx
   obtain ⟨k',n',s',c2,l'⟩ := y
   simp only [Idx.av] at hg hx
   simp [I,K,l169_0,h1,h2,h3,h4,h5,q1,hlt,hg,hx,hw,avs_len]
   exact fun j hj hji => q5 j hj hji hj
  ·right
   have hfe := first_at hlt q2 hz
   rw [hfe]
   have e1 := bne_true hz
   generalize (l[i]).part (mayOf L) 1 = pe at *
   generalize l[i] = y at hg hx
   obtain ⟨k',n',s',c2,l'⟩ := y
   simp only [Idx.av] at hg hx
   simp [K,l169_0,h1,h2,h3,h4,h5,q1,hlt,hg,hx,e1,avs_len]
 ·right
  have : i = l.length := by omega
  subst this
  have hz := first_all (f := Idx.part (mayOf L) 1) fun j hj => q2 j hj hj
  simp [K,l169_0,h1,h2,h3,h4,h5,q1,hz,avs_len]
theorem f103 (c : Cap) (hc : okCap c) (ns : List Nme) (d : Int) (L : Look) (hs : RScope ns d L) (hl : ns.length < 1000000000000) (x : Idx) (hok : x.Ok) (hcnt : x.cnt < 1000000000000) (m : Mem) :
  cvl (C u) (.fn (.func 103) [] []) [x.av,nmsAV c ns,.bool true] m = some (.int .i64 (x.err (mayOf L) 1),m) := by
 have e1 := fun m => f115 (u := u) x hok hcnt m
 have e2 := fun m => f169 (u := u) c hc ns d L hs hl x hok hcnt m
 refine call_runs (g := g103) (by rfl) (by rfl) (by rfl) ?_
 simp only [List.map_cons,List.map_nil,Idx.exp_av _ _ _ hok,exp_nms hc]
 simp only [exp,g103,c103,Idx.err]
 generalize x.part (mayOf L) 1 = pe at *
 generalize x.cnt = cn at *
 obtain ⟨k,n,s,cc,l⟩ := x
 simp only [Idx.av] at e1 e2 ⊢
 generalize hmn : ((min cn 10 : Nat) : Int) = mn at *
 by_cases h9 : 9 < cn
 ·have h9' : (9 : Int) < mn := by omega
  simp [e1,h9,h9']
 ·have h9' : ¬ (9 : Int) < mn := by omega
  simp [e1,e2,h9,h9']
theorem plc_exp {n : Nat} {k : Bool} {c : Cap} (hc : okCap c) {l : List Plc} (h : ∀ p ∈ l,p.Ok) : exp n k (.list c (l.map Plc.av)) = .list c (l.map Plc.av) := by
 have : exps n k (l.map Plc.av) = l.map Plc.av := by
  rw [exps_eq,List.map_map]
  exact List.map_congr_left fun p hp => Plc.exp_av n k p (h p hp)
 simp only [exp,exp_cap hc,this]
theorem plcs_ge (p : Plc) : p.ix.length <= p.wt := by have := Idx.cnts_ge p.ix; simp only [Plc.wt]; omega
theorem f258 (c : Cap) (hc : okCap c) (ns : List Nme) (d : Int) (L : Look) (hs : RScope ns d L) (hl : ns.length < 1000000000000) (cp : Cap) (hcp : okCap cp) (pl : List Plc) (hpl : ∀ p ∈ pl,p.Ok) (hw : plcsW pl < 1000000000000) (m : Mem) :
  cvl (C u) (.fn (.func 258) [] []) [.list cp (pl.map Plc.av),nmsAV c ns] m = some (.int .i64 (first (placeE L) pl),m) := by
 have hlen := plcsW_len pl
 refine call_runs (g := g258) (by rfl) (by rfl) (by rfl) ?_
 simp only [List.map_cons,List.map_nil,plc_exp hcp hpl,exp_nms hc,g258,c258]
 let K : St -> Prop := fun st => getE st.env 0 = .list cp (pl.map Plc.av) /\ getE st.env 1 = nmsAV c ns /\ st.mem = { blks := m.blks,touched := [] }
 refine Runs.seq' (M := K) (by simp [K]) fun s1 ⟨h1,h2,h3⟩ => ?_
 refine Runs.seq (M := fun st => K st /\ first (placeE L) pl = 0) ?_ fun s2 ⟨⟨h1,h2,h3⟩,h6⟩ => by simp [h3,h6]
 let I : Nat -> St -> Prop := fun i st => K st /\ getE st.env 5 = .int .i64 i /\ ∀ j (hj : j < pl.length),j < i -> placeE L pl[j] = 0
 refine Runs.seq' (M := I 0) (by simp [I,K,h1,h2,h3]) fun s4 hI => ?_
 refine Runs.block (Runs.upto (I := I) pl.length hI (fun i st hlt hst => ?_) (fun st hst => ?_))
 ·obtain ⟨⟨h1,h2,h3⟩,q1,q2⟩ := hst
  have hwi : IntKind.wrap .i64 ((i : Int) + 1) = (i : Int) + 1 := wrap_i64 (by omega) (by omega)
  have hm : pl[i] ∈ pl := List.getElem_mem hlt
  have hpi := hpl _ hm
  have hwp := Plc.wt_mem hm
  have hge := plcs_ge pl[i]
  have hreg := f260 (u := u) c hc ns d L hs pl[i].name hl
  have hat : ∀ y ∈ pl[i].ix,∀ m,cvl (C u) (.fn (.func 103) [] []) [y.av,nmsAV c ns,.bool true] m = some (.int .i64 (y.err (mayOf L) 1),m) := fun y hy m =>
   f103 (u := u) c hc ns d L hs hl y (hpi.2.2 y hy).1 (by have := Idx.cnt_mem hy; simp only [Plc.wt] at hwp; omega) m
  let J : St -> Prop := fun st => K st /\ getE st.env 5 = .int .i64 i
  have hnext : placeE L pl[i] = 0 -> ∀ j (hj : j < pl.length),j < i + 1 -> placeE L pl[j] = 0 := fun hz j hj hji => before_succ (P := fun j => ∀ hj : j < pl.length,placeE L pl[j] = 0) (n := pl.length) (fun j a b c => q2 j c b) (fun _ => hz) j hj hji hj
  have hfe : placeE L pl[i] ≠ 0 -> first (placeE L) pl = placeE L pl[i] := fun hz => first_at hlt q2 hz
  refine Runs.seq' (M := J) (by simp [J,K,h1,h2,h3,q1,hlt]) fun s5 ⟨⟨h1,h2,h3⟩,q1⟩ => ?_
  refine Runs.seq (M := fun st => J st /\ placeE L pl[i] = 0) ?_ fun s6 ⟨⟨⟨h1,h2,h3⟩,q1⟩,hz⟩ => by
   simp [I,K,h1,h2,h3,q1,hwi]
   exact hnext hz
  refine Runs.block ?_
  by_cases hr : (L pl[i].name).isReg = true
  case neg =>
   have hr' : (L pl[i].name).isReg = false := by simpa using hr
   have hpe : placeE L pl[i] = 1 := by simp [placeE,hr']
   have hfe' := hfe (by rw [hpe]; decide)
   rw [hpe] at hfe'
   rw [hr'] at hreg
   refine Runs.seq (M := fun _ => False) ?_ fun _ h => h.elim
   simp [K,h1,h2,h3,q1,hlt,hreg,Plc.av,hfe']
  rw [hr] at hreg
  refine Runs.seq' (M := J) (by simp [J,K,h1,h2,h3,q1,hlt,hreg,Plc.av]) fun s5 ⟨⟨h1,h2,h3⟩,q1⟩ => ?_
  by_cases hl2 : 2 < pl[i].ix.length
  ·have hpe : placeE L pl[i] = 2 := by simp [placeE,hr,hl2]
   have hfe' := hfe (by rw [hpe]; decide)
   rw [hpe] at hfe'
   have hl2' : (2 : Int) < (pl[i].ix.length : Int) := by omega
   refine Runs.seq (M := fun _ => False) ?_ fun _ h => h.elim
   simp [K,h1,h2,h3,q1,hlt,Plc.av,hl2',hfe']
  have hl2' : ¬ (2 : Int) < (pl[i].ix.length : Int) := by omega
  have hpe : placeE L pl[i] = first (Idx.err (mayOf L) 1) pl[i].ix := by simp [placeE,hr,hl2]
  refine Runs.seq' (M := J) (by simp [J,K,h1,h2,h3,q1,hlt,Plc.av,hl2']) fun s5 ⟨⟨h1,h2,h3⟩,q1⟩ => ?_
  rw [hpe] at hfe ⊢
  let I2 : Nat -> St -> Prop := fun j st => J st /\ getE st.env 6 = .int .i64 j /\ ∀ k (hk : k < pl[i].ix.length),k < j -> (pl[i].ix[k]).err (mayOf L) 1 = 0
  refine Runs.seq' (M := I2 0) (by simp [I2,J,K,h1,h2,h3,q1]) fun s4 hI => ?_
  refine Runs.block (Runs.loop (I := I2) pl[i].ix.length hI fun j st hj hst => ?_)
  obtain ⟨⟨⟨h1,h2,h3⟩,q1⟩,q3,q4⟩ := hst
  rcases Nat.lt_or_ge j pl[i].ix.length with hlt2 | hge2
  ·have hwj : IntKind.wrap .i64 ((j : Int) + 1) = (j : Int) + 1 := wrap_i64 (by omega) (by omega)
   have hx := hat _ (List.getElem_mem hlt2)
   by_cases hz : (pl[i].ix[j]).err (mayOf L) 1 = 0
   ·left
    refine ⟨hlt2,?_⟩
    have q5 := before_succ (P := fun k => ∀ hk : k < pl[i].ix.length,(pl[i].ix[k]).err (mayOf L) 1 = 0) (n := pl[i].ix.length) (fun j a b c => q4 j c b) (fun _ => hz)
    rw [hz] at hx
    simp only [Idx.av_four] at hx
    have hl4 := Idx.four_len pl[i].ix[j]
    have htk : (pl[i].ix[j]).four.take 4 = (pl[i].ix[j]).four := List.take_of_length_le (by omega)
    simp [I2,J,K,l258_0,h1,h2,h3,q1,q3,hlt,hlt2,hx,hwj,Plc.av,Idx.av_four,hl4,htk]
    exact fun j hj hji => q5 j hj hji hj
   ·right
    have hfe2 := first_at hlt2 q4 hz
    have hfe3 := hfe (by rw [hfe2]; exact hz)
    rw [hfe2] at hfe3
    have e1 := bne_true hz
    simp only [Idx.av_four] at hx
    have hl4 := Idx.four_len pl[i].ix[j]
    have htk : (pl[i].ix[j]).four.take 4 = (pl[i].ix[j]).four := List.take_of_length_le (by omega)
    simp [K,l258_0,h1,h2,h3,q1,q3,hlt,hlt2,hx,e1,Plc.av,Idx.av_four,hl4,htk,hfe3]
  ·right
   have : j = pl[i].ix.length := by omega
   subst this
   have hz := first_all (f := Idx.err (mayOf L) 1) fun j hj => q4 j hj hj
   simp [J,K,l258_0,h1,h2,h3,q1,q3,hlt,Plc.av,hz]
 ·obtain ⟨⟨h1,h2,h3⟩,q1,q2⟩ := hst
  have hz := first_all (f := placeE L) fun j hj => q2 j hj hj
  simp [K,l258_1,h1,h2,h3,q1,hz]
end Go.Abs.Tz
