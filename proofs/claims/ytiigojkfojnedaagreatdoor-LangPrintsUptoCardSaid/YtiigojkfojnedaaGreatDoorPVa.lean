/- A text of this proof. -/
import Derived.Test.YtiigojkfojnedaaGreatDoorPLa
import Derived.Test.YtiigojkfojnedaaGreatDoorPZg
set_option linter.unusedVariables false
set_option linter.unusedSimpArgs false
namespace Go.Abs
inductive Idx
 | mk (k n : Int) (s : List Nat) (c : Cap) (l : List Idx)
mutual
def Idx.av : Idx -> AV
 | .mk k n s c l => .agg [.int .i64 k,.int .i64 n,.str s,.list c (Idx.avs l)]
def Idx.avs : List Idx -> List AV
 | [] => []
 | x :: l => x.av :: Idx.avs l
end
theorem Idx.avs_eq (l : List Idx) : Idx.avs l = l.map Idx.av := by
 induction l with
 | nil => rfl
 | cons a l ih => simp [Idx.avs,ih]
mutual
def Idx.cnt : Idx -> Nat
 | .mk _ _ _ _ l => 1 + Idx.cnts l
def Idx.cnts : List Idx -> Nat
 | [] => 0
 | x :: l => x.cnt + Idx.cnts l
end
theorem Idx.cnt_pos (x : Idx) : 0 < x.cnt := by cases x; simp [Idx.cnt]; omega
theorem Idx.cnts_ge (l : List Idx) : l.length <= Idx.cnts l := by
 induction l with
 | nil => simp
 | cons a l ih => have := Idx.cnt_pos a; simp only [List.length_cons,Idx.cnts]; omega
theorem Idx.cnt_mem {l : List Idx} {x : Idx} (h : x ∈ l) : x.cnt <= Idx.cnts l := by
 induction l with
 | nil => cases h
 | cons a l ih =>
  simp only [Idx.cnts]
  rcases List.mem_cons.1 h with rfl | h
  ·omega
  ·have := ih h; omega
theorem Idx.ind' {Q : Idx -> Prop} (h : ∀ k n s c l,(∀ y ∈ l,Q y) -> Q (.mk k n s c l)) (x : Idx) : Q x :=
 Idx.rec (motive_1 := Q) (motive_2 := fun l => ∀ y ∈ l,Q y) (fun k n s c l ih => h k n s c l ih) (fun y hy => (by cases hy))
  (fun x l hx hl y hy => (by
   rcases List.mem_cons.1 hy with rfl | hy
   ·exact hx
   ·exact hl y hy)) x
def shapeE (k n : Int) (m : Nat) : Int :=
 if k < 1 \/ 5 < k \/ (k = 1 /\ (n < 0 \/ 99 < n)) then 3
 else if (3 <= k /\ m ≠ 2) \/ (k < 3 /\ m ≠ 0) then 2 else 0
def lim (n : Int) : Int × Int := if n < -1000000000 \/ 1000000000 < n then (0,8) else (n,0)
def comb (names : List (List Nat)) (nums : List Int) (k n : Int) (s : List Nat) (rs : List (Int × Int)) : Int × Int :=
 if k = 2 then
  match names.findIdx? (fun x => x == s) with
  | none => (0,1)
  | some i => lim (nums.getD i 0)
 else if 3 <= k then
  match rs with
  | [(a,ea),(b,eb)] => if ea ≠ 0 then (0,ea) else if eb ≠ 0 then (0,eb) else lim (if k = 3 then a + b else if k = 4 then a - b else a * b)
  | _ => (0,0)
 else lim n
mutual
def Idx.val (names : List (List Nat)) (nums : List Int) : Idx -> Int × Int
 | .mk k n s _ l => if shapeE k n l.length = 0 then comb names nums k n s (Idx.vals names nums l) else (0,shapeE k n l.length)
def Idx.vals (names : List (List Nat)) (nums : List Int) : List Idx -> List (Int × Int)
 | [] => []
 | x :: l => x.val names nums :: Idx.vals names nums l
end
def Idx.value (names : List (List Nat)) (nums : List Int) (x : Idx) : Int × Int :=
 if 9 < x.cnt then (0,2) else if names.length ≠ nums.length then (0,7) else x.val names nums
def okCap (c : Cap) : Prop := c = .nil \/ c = .any
theorem exp_cap {n : Nat} {k : Bool} {c : Cap} (h : okCap c) : c.exp n k = c := by rcases h with rfl | rfl <;> rfl
mutual
def Idx.Ok : Idx -> Prop
 | .mk _ _ _ c l => okCap c /\ Idx.Oks l
def Idx.Oks : List Idx -> Prop
 | [] => True
 | x :: l => x.Ok /\ Idx.Oks l
end
theorem Idx.oks_mem {l : List Idx} (h : Idx.Oks l) : ∀ x ∈ l,x.Ok := by
 induction l with
 | nil => intro x hx; cases hx
 | cons a l ih =>
  intro x hx
  rcases List.mem_cons.1 hx with rfl | hx
  ·exact h.1
  ·exact ih h.2 x hx
theorem Idx.exp_av (n : Nat) (k : Bool) (x : Idx) : x.Ok -> exp n k x.av = x.av := by
 refine Idx.ind' (Q := fun x => x.Ok -> exp n k x.av = x.av) (fun kk nn s c l ih h => ?_) x
 simp only [Idx.Ok] at h
 have hl : exps n k (Idx.avs l) = Idx.avs l := by
  rw [exps_eq,Idx.avs_eq,List.map_map]
  exact List.map_congr_left fun y hy => ih y hy (Idx.oks_mem h.2 y hy)
 simp only [Idx.av,exp,exps,exp_cap h.1,hl]
theorem Idx.nol_av (x : Idx) : nol x.av = x.av := by
 refine Idx.ind' (Q := fun x => nol x.av = x.av) (fun kk nn s c l ih => ?_) x
 have hl : nols (Idx.avs l) = Idx.avs l := by
  rw [nols_eq,Idx.avs_eq,List.map_map]
  exact List.map_congr_left fun y hy => ih y hy
 simp only [Idx.av,nol,nols,hl]
theorem Idx.frz_av (bs : List Blk) (n k : Nat) (x : Idx) : x.Ok -> frz bs n k x.av = x.av := by
 refine Idx.ind' (Q := fun x => x.Ok -> frz bs n k x.av = x.av) (fun kk nn s c l ih h => ?_) x
 simp only [Idx.Ok] at h
 cases k with
 | zero => exact Idx.exp_av n false _ (by simp only [Idx.Ok]; exact h)
 | succ k =>
  have hl : (Idx.avs l).map (frz bs n (k + 1)) = Idx.avs l := by
   rw [Idx.avs_eq,List.map_map]
   exact List.map_congr_left fun y hy => ih y hy (Idx.oks_mem h.2 y hy)
  simp only [frz] at hl
  simp only [Idx.av,frz,frzW,frzWs,frzWs_eq,exp_cap h.1,hl]
theorem wrap_i64 {n : Int} (h1 : -9223372036854775808 <= n) (h2 : n < 9223372036854775808) : IntKind.wrap .i64 n = n := by
 show (if (true && decide (n % 18446744073709551616 ≥ 9223372036854775808)) = true then n % 18446744073709551616 - 18446744073709551616 else n % 18446744073709551616) = n
 split
 ·rename_i h; simp at h; omega
 ·rename_i h; simp at h; omega
end Go.Abs
set_option maxRecDepth 100000
set_option maxHeartbeats 1000000
namespace Go.Abs.Tz
open Go.Abs
variable {u : Nat}
theorem frz_int (bs : List Blk) (n : Nat) (k : IntKind) (i : Int) : frz bs n 8 (.int k i) = .int k i := rfl
theorem frz_bool (bs : List Blk) (n : Nat) (b : Bool) : frz bs n 8 (.bool b) = .bool b := rfl
theorem f99 (n lo hi : Int) (m : Mem) : cvl (C u) (.fn (.func 99) [] []) [.int .i64 n,.int .i64 lo,.int .i64 hi] m = some (.bool (decide (n < lo) || decide (n > hi)),m) := by
 refine call_runs (g := g99) (by rfl) (by rfl) (by rfl) ?_
 by_cases h1 : n < lo <;> by_cases h2 : n > hi <;>
  simp [Runs,g99,c99,exec,aops,astep,wantedA,aop,evO,setO,setU,getE,getE_setE,lget,lget_lset,aBin,aInt,aUn,AV.cells,newVar,padd,rd,wr,asElem,single,splice,aStr,adraw,ascan,exp,gets,RV.get,tupled,frz_bool,h1,h2]
theorem f181 (k n : Int) (s : List Nat) (c : Cap) (l : List Idx) (m : Mem) (hok : (Idx.mk k n s c l).Ok) :
  cvl (C u) (.fn (.func 181) [] []) [(Idx.mk k n s c l).av] m = some (.int .i64 (shapeE k n l.length),m) := by
 have hl : (Idx.avs l).length = l.length := by rw [Idx.avs_eq]; simp
 refine call_runs (g := g181) (by rfl) (by rfl) (by rfl) ?_
 simp only [List.map_cons,List.map_nil,Idx.exp_av _ _ _ hok]
 by_cases h1 : k < 1
 ·simp [Runs,g181,c181,Idx.av,exec,aops,astep,wantedA,aop,evO,setO,setU,getE,getE_setE,lget,lget_lset,aBin,aInt,aUn,AV.cells,newVar,padd,rd,wr,asElem,single,splice,aStr,adraw,ascan,f99,gets,RV.get,tupled,frz_int,shapeE,h1]
 by_cases h2 : k > 5
 ·simp [Runs,g181,c181,Idx.av,exec,aops,astep,wantedA,aop,evO,setO,setU,getE,getE_setE,lget,lget_lset,aBin,aInt,aUn,AV.cells,newVar,padd,rd,wr,asElem,single,splice,aStr,adraw,ascan,f99,gets,RV.get,tupled,frz_int,shapeE,h1,h2]
 by_cases h3 : k = 1
 ·subst h3
  by_cases h4 : n < 0
  ·simp [Runs,g181,c181,Idx.av,exec,aops,astep,wantedA,aop,evO,setO,setU,getE,getE_setE,lget,lget_lset,aBin,aInt,aUn,AV.cells,newVar,padd,rd,wr,asElem,single,splice,aStr,adraw,ascan,f99,gets,RV.get,tupled,frz_int,shapeE,h4]
  by_cases h5 : n > 99
  ·simp [Runs,g181,c181,Idx.av,exec,aops,astep,wantedA,aop,evO,setO,setU,getE,getE_setE,lget,lget_lset,aBin,aInt,aUn,AV.cells,newVar,padd,rd,wr,asElem,single,splice,aStr,adraw,ascan,f99,gets,RV.get,tupled,frz_int,shapeE,h4,h5]
  by_cases h8 : l.length = 0
  ·simp [Runs,g181,c181,Idx.av,exec,aops,astep,wantedA,aop,evO,setO,setU,getE,getE_setE,lget,lget_lset,aBin,aInt,aUn,AV.cells,newVar,padd,rd,wr,asElem,single,splice,aStr,adraw,ascan,f99,gets,RV.get,tupled,frz_int,shapeE,hl,h4,h5,h8]
  ·simp [Runs,g181,c181,Idx.av,exec,aops,astep,wantedA,aop,evO,setO,setU,getE,getE_setE,lget,lget_lset,aBin,aInt,aUn,AV.cells,newVar,padd,rd,wr,asElem,single,splice,aStr,adraw,ascan,f99,gets,RV.get,tupled,frz_int,shapeE,hl,h4,h5,h8]
 have h3' : (k == 1) = false := by simpa using h3
 by_cases h6 : k ≥ 3
 ·have h6' : ¬ k < 3 := by omega
  have h6'' : ¬ k <= 2 := by omega
  by_cases h7 : l.length = 2
  ·simp [Runs,g181,c181,Idx.av,exec,aops,astep,wantedA,aop,evO,setO,setU,getE,getE_setE,lget,lget_lset,aBin,aInt,aUn,AV.cells,newVar,padd,rd,wr,asElem,single,splice,aStr,adraw,ascan,f99,gets,RV.get,tupled,frz_int,shapeE,hl,h1,h2,h3,h3',h6,h6',h6'',h7]
  ·have h7' : ((l.length : Int) != 2) = true := by simp; omega
   simp [Runs,g181,c181,Idx.av,exec,aops,astep,wantedA,aop,evO,setO,setU,getE,getE_setE,lget,lget_lset,aBin,aInt,aUn,AV.cells,newVar,padd,rd,wr,asElem,single,splice,aStr,adraw,ascan,f99,gets,RV.get,tupled,frz_int,shapeE,hl,h1,h2,h3,h3',h6,h7,h7']
 ·have h6' : k < 3 := by omega
  have h6'' : k <= 2 := by omega
  by_cases h8 : l.length = 0
  ·simp [Runs,g181,c181,Idx.av,exec,aops,astep,wantedA,aop,evO,setO,setU,getE,getE_setE,lget,lget_lset,aBin,aInt,aUn,AV.cells,newVar,padd,rd,wr,asElem,single,splice,aStr,adraw,ascan,f99,gets,RV.get,tupled,frz_int,shapeE,hl,h1,h2,h3,h3',h6,h6',h6'',h8]
  ·simp [Runs,g181,c181,Idx.av,exec,aops,astep,wantedA,aop,evO,setO,setU,getE,getE_setE,lget,lget_lset,aBin,aInt,aUn,AV.cells,newVar,padd,rd,wr,asElem,single,splice,aStr,adraw,ascan,f99,gets,RV.get,tupled,frz_int,shapeE,hl,h1,h2,h3,h3',h6,h6',h6'',h8]
end Go.Abs.Tz
