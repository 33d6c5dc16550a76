/- A text of this proof. -/
import Derived.Test.YtiigojkfojnedaaGreatDoorPVa
set_option linter.unusedVariables false
set_option linter.unusedSimpArgs false
set_option maxRecDepth 100000
set_option maxHeartbeats 1000000
namespace Go.Abs.Tz
open Go.Abs
variable {u : Nat}
theorem avs_len (l : List Idx) : (Idx.avs l).length = l.length := by rw [Idx.avs_eq]; simp
theorem avs_get (l : List Idx) (i : Nat) (h : i < l.length) : (Idx.avs l)[i]'(by rw [avs_len]; exact h) = l[i].av := by simp [Idx.avs_eq]
theorem cnts_take (l : List Idx) (i : Nat) (h : i < l.length) : Idx.cnts (l.take (i + 1)) = Idx.cnts (l.take i) + l[i].cnt := by
 induction l generalizing i with
 | nil => simp at h
 | cons a l ih =>
  cases i with
  | zero => simp [Idx.cnts]
  | succ i =>
   have := ih i (by simpa using h)
   simp only [List.take_succ_cons,Idx.cnts,List.getElem_cons_succ] at this ⊢
   omega
theorem cnts_le (l : List Idx) (i : Nat) : Idx.cnts (l.take i) <= Idx.cnts l := by
 induction l generalizing i with
 | nil => simp
 | cons a l ih =>
  cases i with
  | zero => simp [Idx.cnts]
  | succ i => have := ih i; simp only [List.take_succ_cons,Idx.cnts]; omega
theorem f117 (x : Idx) : x.Ok -> x.cnt < 1000000000000 -> ∀ m,cvl (C u) (.fn (.func 117) [] []) [x.av] m = some (.int .i64 x.cnt,m) := by
 refine Idx.ind' (Q := fun x => x.Ok -> x.cnt < 1000000000000 -> ∀ m,cvl (C u) (.fn (.func 117) [] []) [x.av] m = some (.int .i64 x.cnt,m)) (fun k n s c l ih hok hc m => ?_) x
 refine call_runs (g := g117) (by rfl) (by rfl) (by rfl) ?_
 simp only [List.map_cons,List.map_nil,Idx.exp_av _ _ _ hok,g117,c117]
 simp only [Idx.cnt] at hc
 refine Runs.seq' (M := fun s1 => getE s1.env 1 = .lptr 1 0 0 /\ lget s1.loc 1 = some (0,.cells [.int .i64 k,.int .i64 n,.str s,.list c (Idx.avs l)]) /\ s1.mem = { blks := m.blks,touched := [] }) (by simp [Idx.av,newVer,exec,aops,astep,wantedA,aop,evO,setO,setU,getE,getE_setE,lget,lget_lset,aBin,aInt,aUn,AV.cells,newVar,padd,rd,wr,asElem,single,splice,aStr,adraw,ascan]) fun s1 ⟨h1,h2,h3⟩ => ?_
 refine Runs.seq' (M := fun s2 => getE s2.env 1 = .lptr 1 0 0 /\ lget s2.loc 1 = some (0,.cells [.int .i64 k,.int .i64 n,.str s,.list c (Idx.avs l)]) /\ s2.mem = { blks := m.blks,touched := [] } /\ getE s2.env 3 = .int .i64 1) (by simp [exec,aops,astep,wantedA,aop,evO,setO,setU,getE,getE_setE,lget,lget_lset,aBin,aInt,aUn,AV.cells,newVar,padd,rd,wr,asElem,single,splice,aStr,adraw,ascan,h1,h2,h3]) fun s2 ⟨h1,h2,h3,h4⟩ => ?_
 refine Runs.seq (M := fun s3 => s3.mem = { blks := m.blks,touched := [] } /\ getE s3.env 3 = .int .i64 ((1 + Idx.cnts l : Nat) : Int)) ?_ fun s3 ⟨h3,h4⟩ => ?_
 ·let I : Nat -> St -> Prop := fun i st => getE st.env 3 = .int .i64 ((1 + Idx.cnts (l.take i) : Nat) : Int) /\ getE st.env 7 = .list c (Idx.avs l) /\ getE st.env 8 = .int .i64 l.length /\ getE st.env 9 = .int .i64 i /\ st.mem = { blks := m.blks,touched := [] }
  refine Runs.seq' (M := I 0) (by simp [I,exec,aops,astep,wantedA,aop,evO,setO,setU,getE,getE_setE,lget,lget_lset,aBin,aInt,aUn,AV.cells,newVar,padd,rd,wr,asElem,single,splice,aStr,adraw,ascan,h1,h2,h3,h4,avs_len,Idx.cnts]) fun s4 hI => ?_
  refine Runs.block (Runs.loop (I := I) l.length hI fun i st hi hst => ?_)
  obtain ⟨q1,q2,q3,q4,q5⟩ := hst
  by_cases hlt : i < l.length
  ·left
   refine ⟨hlt,?_⟩
   have hg := avs_get l i hlt
   have ht := cnts_take l i hlt
   have hle := cnts_le l (i + 1)
   have ihy := ih l[i] (List.getElem_mem hlt) (Idx.oks_mem hok.2 _ (List.getElem_mem hlt)) (by have := Idx.cnt_mem (List.getElem_mem hlt); omega)
   generalize l[i] = y at hg ht ihy
   obtain ⟨k',n',s',c',l'⟩ := y
   simp only [Idx.av] at hg ihy
   have hw : IntKind.wrap .i64 (1 + (Idx.cnts (l.take i) : Int) + ((Idx.mk k' n' s' c' l').cnt : Int)) = 1 + (Idx.cnts (l.take i) : Int) + ((Idx.mk k' n' s' c' l').cnt : Int) := wrap_i64 (by omega) (by omega)
   have hw2 : IntKind.wrap .i64 ((i : Int) + 1) = (i : Int) + 1 := wrap_i64 (by omega) (by have := Idx.cnts_ge l; omega)
   simp [I,l117_0,exec,aops,astep,wantedA,aop,evO,setO,setU,getE,getE_setE,lget,lget_lset,aBin,aInt,aUn,AV.cells,newVar,padd,rd,wr,asElem,single,splice,aStr,adraw,ascan,q1,q2,q3,q4,q5,hlt,hg,ihy,hw,hw2,ht,avs_len]
   omega
  ·right
   have : i = l.length := by omega
   subst this
   simp [l117_0,exec,aops,astep,wantedA,aop,evO,setO,setU,getE,getE_setE,lget,lget_lset,aBin,aInt,aUn,AV.cells,newVar,padd,rd,wr,asElem,single,splice,aStr,adraw,ascan,q1,q2,q3,q4,q5]
 ·simp [Runs,exec,aops,astep,wantedA,aop,evO,setO,setU,getE,getE_setE,lget,lget_lset,aBin,aInt,aUn,AV.cells,newVar,padd,rd,wr,asElem,single,splice,aStr,adraw,ascan,h3,h4,gets,RV.get,tupled,frz_int,Idx.cnt]
end Go.Abs.Tz
set_option maxRecDepth 100000
set_option maxHeartbeats 1000000
namespace Go.Abs.Tz
open Go.Abs
variable {u : Nat}
theorem f115 (x : Idx) : x.Ok -> x.cnt < 1000000000000 -> ∀ m,cvl (C u) (.fn (.func 115) [] []) [x.av] m = some (.int .i64 (min x.cnt 10 : Nat),m) := by
 refine Idx.ind' (Q := fun x => x.Ok -> x.cnt < 1000000000000 -> ∀ m,cvl (C u) (.fn (.func 115) [] []) [x.av] m = some (.int .i64 (min x.cnt 10 : Nat),m)) (fun k n s c l ih hok hc m => ?_) x
 refine call_runs (g := g115) (by rfl) (by rfl) (by rfl) ?_
 simp only [List.map_cons,List.map_nil,Idx.exp_av _ _ _ hok,g115,c115]
 simp only [Idx.cnt] at hc
 refine Runs.seq' (M := fun s1 => getE s1.env 1 = .lptr 1 0 0 /\ lget s1.loc 1 = some (0,.cells [.int .i64 k,.int .i64 n,.str s,.list c (Idx.avs l)]) /\ s1.mem = { blks := m.blks,touched := [] }) (by simp [Idx.av,newVer,exec,aops,astep,wantedA,aop,evO,setO,setU,getE,getE_setE,lget,lget_lset,aBin,aInt,aUn,AV.cells,newVar,padd,rd,wr,asElem,single,splice,aStr,adraw,ascan]) fun s1 ⟨h1,h2,h3⟩ => ?_
 refine Runs.seq' (M := fun s2 => getE s2.env 1 = .lptr 1 0 0 /\ lget s2.loc 1 = some (0,.cells [.int .i64 k,.int .i64 n,.str s,.list c (Idx.avs l)]) /\ s2.mem = { blks := m.blks,touched := [] } /\ getE s2.env 3 = .int .i64 1) (by simp [exec,aops,astep,wantedA,aop,evO,setO,setU,getE,getE_setE,lget,lget_lset,aBin,aInt,aUn,AV.cells,newVar,padd,rd,wr,asElem,single,splice,aStr,adraw,ascan,h1,h2,h3]) fun s2 ⟨h1,h2,h3,h4⟩ => ?_
 refine Runs.seq (M := fun s3 => s3.mem = { blks := m.blks,touched := [] } /\ ∃ N : Nat,getE s3.env 3 = .int .i64 N /\ min N 10 = min (1 + Idx.cnts l) 10) ?_ fun s3 ⟨h3,N,h4,h5⟩ => ?_
 ·let I : Nat -> St -> Prop := fun i st => getE st.env 1 = .lptr 1 0 0 /\ lget st.loc 1 = some (0,.cells [.int .i64 k,.int .i64 n,.str s,.list c (Idx.avs l)]) ∧
   (∃ N : Nat,getE st.env 3 = .int .i64 N /\ N <= 1 + Idx.cnts (l.take i) /\ min N 10 = min (1 + Idx.cnts (l.take i)) 10) /\ getE st.env 4 = .int .i64 i /\ st.mem = { blks := m.blks,touched := [] }
  refine Runs.seq' (M := I 0) (by simp [I,exec,aops,astep,wantedA,aop,evO,setO,setU,getE,getE_setE,lget,lget_lset,aBin,aInt,aUn,AV.cells,newVar,padd,rd,wr,asElem,single,splice,aStr,adraw,ascan,h1,h2,h3,h4,Idx.cnts]; exact ⟨1,by simp⟩) fun s4 hI => ?_
  refine Runs.block (Runs.loop (I := I) l.length hI fun i st hi hst => ?_)
  obtain ⟨q0,q1,⟨N,q2,q3,q4⟩,q5,q6⟩ := hst
  by_cases hlt : i < l.length
  ·by_cases hN : N < 10
   ·left
    refine ⟨hlt,?_⟩
    have hg := avs_get l i hlt
    have ht := cnts_take l i hlt
    have hle := cnts_le l (i + 1)
    have ihy := ih l[i] (List.getElem_mem hlt) (Idx.oks_mem hok.2 _ (List.getElem_mem hlt)) (by have := Idx.cnt_mem (List.getElem_mem hlt); omega)
    generalize l[i] = y at hg ht ihy
    obtain ⟨k',n',s',c',l'⟩ := y
    simp only [Idx.av] at hg ihy
    generalize (Idx.mk k' n' s' c' l').cnt = cy at ht ihy
    have hw : IntKind.wrap .i64 ((N : Int) + ((min cy 10 : Nat) : Int)) = ((N + min cy 10 : Nat) : Int) := by rw [wrap_i64 (by omega) (by omega)]; omega
    have hw2 : IntKind.wrap .i64 ((i : Int) + 1) = (i : Int) + 1 := wrap_i64 (by omega) (by have := Idx.cnts_ge l; omega)
    have hN' : (N : Int) < 10 := by omega
    simp only [l115_0]
    simp [I,exec,aops,astep,wantedA,aop,evO,setO,setU,getE,getE_setE,lget,lget_lset,aBin,aInt,aUn,AV.cells,newVar,padd,rd,wr,asElem,single,splice,aStr,adraw,ascan,q0,q1,q2,q3,q4,q5,q6,hlt,hN',hg,ihy,hw,hw2,ht,avs_len,-Int.natCast_add]
    exact ⟨⟨N + min cy 10,rfl,by omega,by omega⟩,rfl⟩
   ·right
    have hN' : ¬ (N : Int) < 10 := by omega
    have := cnts_le l i
    simp [l115_0,exec,aops,astep,wantedA,aop,evO,setO,setU,getE,getE_setE,lget,lget_lset,aBin,aInt,aUn,AV.cells,newVar,padd,rd,wr,asElem,single,splice,aStr,adraw,ascan,q0,q1,q2,q3,q4,q5,q6,hlt,hN',avs_len]
    exact ⟨N,rfl,by omega⟩
  ·right
   have : i = l.length := by omega
   subst this
   simp only [List.take_length] at q4
   simp [l115_0,exec,aops,astep,wantedA,aop,evO,setO,setU,getE,getE_setE,lget,lget_lset,aBin,aInt,aUn,AV.cells,newVar,padd,rd,wr,asElem,single,splice,aStr,adraw,ascan,q0,q1,q2,q3,q5,q6,avs_len]
   exact ⟨N,rfl,q4⟩
 ·have hN : (if (10 : Int) < (N : Int) then (10 : Int) else (N : Int)) = ((min (Idx.mk k n s c l).cnt 10 : Nat) : Int) := by simp only [Idx.cnt]; split <;> omega
  simp only [Runs,exec,aops,astep,wantedA,aop,evO,setO,setU,getE,getE_setE,lget,lget_lset,aBin,aInt,aUn,AV.cells,newVar,padd,rd,wr,asElem,single,splice,aStr,adraw,ascan,h3,h4]
  simp [gets,RV.get,tupled,frz_int,getE_setE,hN,h3]
theorem f176 (k n : Int) (s : List Nat) (c : Cap) (l : List Idx) (m : Mem) (hok : (Idx.mk k n s c l).Ok) :
  cvl (C u) (.fn (.func 176) [] []) [(Idx.mk k n s c l).av] m = some (.int .i64 (shapeE k n l.length),m) := by
 have hl : (Idx.avs l).length = l.length := by rw [Idx.avs_eq]; simp
 refine call_runs (g := g176) (by rfl) (by rfl) (by rfl) ?_
 simp only [List.map_cons,List.map_nil,Idx.exp_av _ _ _ hok]
 by_cases h1 : k < 1
 ·have e3 : (k == 3) = false := by simp; omega
  have e4 : (k == 4) = false := by simp; omega
  have e5 : (k == 5) = false := by simp; omega
  simp [Runs,g176,c176,Idx.av,exec,aops,astep,wantedA,aop,evO,setO,setU,getE,getE_setE,lget,lget_lset,aBin,aInt,aUn,AV.cells,newVar,padd,rd,wr,asElem,single,splice,aStr,adraw,ascan,gets,RV.get,tupled,frz_int,shapeE,h1,e3,e4,e5]
 by_cases h2 : k > 5
 ·have e3 : (k == 3) = false := by simp; omega
  have e4 : (k == 4) = false := by simp; omega
  have e5 : (k == 5) = false := by simp; omega
  simp [Runs,g176,c176,Idx.av,exec,aops,astep,wantedA,aop,evO,setO,setU,getE,getE_setE,lget,lget_lset,aBin,aInt,aUn,AV.cells,newVar,padd,rd,wr,asElem,single,splice,aStr,adraw,ascan,gets,RV.get,tupled,frz_int,shapeE,h1,h2,e3,e4,e5]
 by_cases h3 : k = 1
 ·subst h3
  by_cases h4 : n < 0
  ·simp [Runs,g176,c176,Idx.av,exec,aops,astep,wantedA,aop,evO,setO,setU,getE,getE_setE,lget,lget_lset,aBin,aInt,aUn,AV.cells,newVar,padd,rd,wr,asElem,single,splice,aStr,adraw,ascan,gets,RV.get,tupled,frz_int,shapeE,h4]
  by_cases h5 : n > 99
  ·simp [Runs,g176,c176,Idx.av,exec,aops,astep,wantedA,aop,evO,setO,setU,getE,getE_setE,lget,lget_lset,aBin,aInt,aUn,AV.cells,newVar,padd,rd,wr,asElem,single,splice,aStr,adraw,ascan,gets,RV.get,tupled,frz_int,shapeE,h4,h5]
  by_cases h8 : l.length = 0
  ·simp [Runs,g176,c176,Idx.av,exec,aops,astep,wantedA,aop,evO,setO,setU,getE,getE_setE,lget,lget_lset,aBin,aInt,aUn,AV.cells,newVar,padd,rd,wr,asElem,single,splice,aStr,adraw,ascan,gets,RV.get,tupled,frz_int,shapeE,hl,h4,h5,h8]
  ·have h8' : 0 < l.length := by omega
   simp [Runs,g176,c176,Idx.av,exec,aops,astep,wantedA,aop,evO,setO,setU,getE,getE_setE,lget,lget_lset,aBin,aInt,aUn,AV.cells,newVar,padd,rd,wr,asElem,single,splice,aStr,adraw,ascan,gets,RV.get,tupled,frz_int,shapeE,hl,h4,h5,h8,h8']
 by_cases hk2 : k = 2
 ·subst hk2
  by_cases h8 : l.length = 0
  ·simp [Runs,g176,c176,Idx.av,exec,aops,astep,wantedA,aop,evO,setO,setU,getE,getE_setE,lget,lget_lset,aBin,aInt,aUn,AV.cells,newVar,padd,rd,wr,asElem,single,splice,aStr,adraw,ascan,gets,RV.get,tupled,frz_int,shapeE,hl,h8]
  ·have h8' : 0 < l.length := by omega
   simp [Runs,g176,c176,Idx.av,exec,aops,astep,wantedA,aop,evO,setO,setU,getE,getE_setE,lget,lget_lset,aBin,aInt,aUn,AV.cells,newVar,padd,rd,wr,asElem,single,splice,aStr,adraw,ascan,gets,RV.get,tupled,frz_int,shapeE,hl,h8,h8']
 have hk : k = 3 \/ k = 4 \/ k = 5 := by omega
 by_cases h7 : l.length = 2
 ·rcases hk with rfl | rfl | rfl <;> simp [Runs,g176,c176,Idx.av,exec,aops,astep,wantedA,aop,evO,setO,setU,getE,getE_setE,lget,lget_lset,aBin,aInt,aUn,AV.cells,newVar,padd,rd,wr,asElem,single,splice,aStr,adraw,ascan,gets,RV.get,tupled,frz_int,shapeE,hl,h7]
 ·have h7' : ((l.length : Int) != 2) = true := by simp; omega
  rcases hk with rfl | rfl | rfl <;> simp [Runs,g176,c176,Idx.av,exec,aops,astep,wantedA,aop,evO,setO,setU,getE,getE_setE,lget,lget_lset,aBin,aInt,aUn,AV.cells,newVar,padd,rd,wr,asElem,single,splice,aStr,adraw,ascan,gets,RV.get,tupled,frz_int,shapeE,hl,h7,h7']
end Go.Abs.Tz
set_option maxRecDepth 100000
set_option maxHeartbeats 4000000
namespace Go.Abs.Tz
open Go.Abs
variable {u : Nat}
def strsAV (c : Cap) (l : List (List Nat)) : AV := .list c (l.map AV.str)
theorem exp_strs {n : Nat} {k : Bool} {c : Cap} (hc : okCap c) (l : List (List Nat)) : exp n k (strsAV c l) = strsAV c l := by
 simp only [strsAV,exp,exp_cap hc,exps_eq,List.map_map]
 congr 1
def placeOf (l : List (List Nat)) (t : List Nat) : Int := match l.findIdx? (fun x => x == t) with
 | some i => (i : Int)
 | none => -1
theorem placeOf_some {l : List (List Nat)} {t : List Nat} {i : Nat} (h : i < l.length) (he : l[i] = t) (hn : ∀ j (hj : j < l.length),j < i -> l[j] ≠ t) : l.findIdx? (fun x => x == t) = some i := by
 rw [List.findIdx?_eq_some_iff_getElem]
 refine ⟨h,by simpa using he,fun j hj => ?_⟩
 have := hn j (by omega) hj
 simpa using this
theorem placeOf_none {l : List (List Nat)} {t : List Nat} (hn : ∀ j (hj : j < l.length),l[j] ≠ t) : l.findIdx? (fun x => x == t) = none := by
 rw [List.findIdx?_eq_none_iff]
 intro x hx
 obtain ⟨j,hj,rfl⟩ := List.mem_iff_getElem.1 hx
 simpa using hn j hj
theorem f85 (cn : Cap) (hcn : okCap cn) (ss : List (List Nat)) (t : List Nat) (hlen : ss.length < 1000000000000) (m : Mem) :
  cvl (C u) (.fn (.func 85) [] []) [strsAV cn ss,.str t] m = some (.int .i64 (placeOf ss t),m) := by
 refine call_runs (g := g85) (by rfl) (by rfl) (by rfl) ?_
 simp only [List.map_cons,List.map_nil,exp_strs hcn,exp,g85,c85]
 refine Runs.seq' (M := fun s1 => getE s1.env 0 = strsAV cn ss /\ getE s1.env 1 = .str t /\ s1.mem = { blks := m.blks,touched := [] }) (by simp [exec,aops,astep,wantedA,aop,evO,setO,setU,getE,getE_setE,lget,lget_lset,aBin,aInt,aUn,AV.cells,newVar,padd,rd,wr,asElem,single,splice,aStr,adraw,ascan]) fun s1 ⟨h1,h2,h3⟩ => ?_
 refine Runs.seq (M := fun s3 => s3.mem = { blks := m.blks,touched := [] } /\ ∀ j (hj : j < ss.length),ss[j] ≠ t) ?_ fun s3 ⟨h3,h4⟩ => ?_
 ·let I : Nat -> St -> Prop := fun i st => getE st.env 0 = strsAV cn ss /\ getE st.env 1 = .str t /\ getE st.env 7 = .int .i64 ss.length /\ getE st.env 8 = .int .i64 i /\ st.mem = { blks := m.blks,touched := [] } /\ ∀ j (hj : j < ss.length),j < i -> ss[j] ≠ t
  refine Runs.seq' (M := I 0) (by simp [I,exec,aops,astep,wantedA,aop,evO,setO,setU,getE,getE_setE,lget,lget_lset,aBin,aInt,aUn,AV.cells,newVar,padd,rd,wr,asElem,single,splice,aStr,adraw,ascan,h1,h2,h3,strsAV]) fun s4 hI => ?_
  refine Runs.block (Runs.loop (I := I) ss.length hI fun i st hi hst => ?_)
  obtain ⟨q1,q2,q3,q4,q5,q6⟩ := hst
  simp only [strsAV] at q1
  by_cases hlt : i < ss.length
  ·have hw2 : IntKind.wrap .i64 ((i : Int) + 1) = (i : Int) + 1 := wrap_i64 (by omega) (by omega)
   by_cases he : ss[i] = t
   ·right
    have hp := placeOf_some hlt he q6
    simp [l85_0,exec,aops,astep,wantedA,aop,evO,setO,setU,getE,getE_setE,lget,lget_lset,aBin,aInt,aUn,AV.cells,newVar,padd,rd,wr,asElem,single,splice,aStr,adraw,ascan,q1,q2,q3,q4,q5,hlt,he]
    simp [gets,g85,RV.get,getE_setE,tupled,frz_int,placeOf,hp]
   ·left
    have he' : ¬ t = ss[i] := fun e => he e.symm
    refine ⟨hlt,?_⟩
    simp [I,l85_0,exec,aops,astep,wantedA,aop,evO,setO,setU,getE,getE_setE,lget,lget_lset,aBin,aInt,aUn,AV.cells,newVar,padd,rd,wr,asElem,single,splice,aStr,adraw,ascan,q1,q2,q3,q4,q5,hlt,he',hw2,strsAV]
    intro j hj hji
    rcases Nat.lt_or_ge j i with h | h
    ·exact q6 j hj h
    ·have : j = i := by omega
     subst this; exact he
  ·right
   have : i = ss.length := by omega
   subst this
   simp [l85_0,exec,aops,astep,wantedA,aop,evO,setO,setU,getE,getE_setE,lget,lget_lset,aBin,aInt,aUn,AV.cells,newVar,padd,rd,wr,asElem,single,splice,aStr,adraw,ascan,q1,q2,q3,q4,q5]
   exact fun j hj => q6 j hj hj
 ·have hp := placeOf_none h4
  simp [Runs,exec,aops,astep,wantedA,aop,evO,setO,setU,getE,getE_setE,lget,lget_lset,aBin,aInt,aUn,AV.cells,newVar,padd,rd,wr,asElem,single,splice,aStr,adraw,ascan,h3,gets,RV.get,tupled,frz_int,placeOf,hp]
end Go.Abs.Tz
