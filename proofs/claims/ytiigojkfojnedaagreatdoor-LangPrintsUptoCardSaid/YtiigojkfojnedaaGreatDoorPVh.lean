/- A text of this proof. -/
import Derived.Test.YtiigojkfojnedaaGreatDoorPVc
import Derived.Test.YtiigojkfojnedaaGreatDoorPAwa
import Derived.Test.YtiigojkfojnedaaGreatDoorPAwb
import Derived.Test.YtiigojkfojnedaaGreatDoorPAwc
set_option linter.unusedVariables false
set_option linter.unusedSimpArgs false
set_option maxRecDepth 100000
set_option maxHeartbeats 4000000
namespace Go.Abs.Tz
open Go.Abs
variable {u : Nat}
end Go.Abs.Tz
set_option maxRecDepth 100000
set_option maxHeartbeats 4000000
namespace Go.Abs.Tz
open Go.Abs
variable {u : Nat}
end Go.Abs.Tz
set_option maxRecDepth 100000
set_option maxHeartbeats 4000000
namespace Go.Abs.Tz
open Go.Abs
variable {u : Nat}
mutual
def _root_.Go.Abs.Idx.copy : Idx -> Idx
 | .mk k n s _ l => .mk k n s (match l with
  | [] => .nil
  | _ => .any) (copies l)
def copies : List Idx -> List Idx
 | [] => []
 | x :: l => x.copy :: copies l
end
theorem copies_eq (l : List Idx) : copies l = l.map Idx.copy := by
 induction l with
 | nil => rfl
 | cons a l ih => simp [copies,ih]
theorem copies_len (l : List Idx) : (copies l).length = l.length := by rw [copies_eq]; simp
theorem copies_get (l : List Idx) (i : Nat) (h : i < l.length) : (copies l)[i]'(by rw [copies_len]; exact h) = l[i].copy := by simp [copies_eq]
theorem copy_ok (x : Idx) : x.copy.Ok := by
 refine Idx.ind' (Q := fun x => x.copy.Ok) (fun k n s c l ih => ?_) x
 simp only [Idx.copy,Idx.Ok]
 refine ⟨?_,?_⟩
 ·cases l
  ·exact .inl rfl
  ·exact .inr rfl
 ·rw [copies_eq]
  clear c
  induction l with
  | nil => trivial
  | cons a l ih2 => exact ⟨ih a (by simp),ih2 fun y hy => ih y (by simp [hy])⟩
theorem copy_cnt (x : Idx) : x.copy.cnt = x.cnt := by
 refine Idx.ind' (Q := fun x => x.copy.cnt = x.cnt) (fun k n s c l ih => ?_) x
 simp only [Idx.copy,Idx.cnt]
 congr 1
 clear c
 induction l with
 | nil => rfl
 | cons a l ih2 =>
  simp only [copies,Idx.cnts]
  rw [ih a (by simp),ih2 fun y hy => ih y (by simp [hy])]
theorem f28 (x : Idx) : x.Ok -> x.cnt < 1000000000000 -> ∀ m,cvl (C u) (.fn (.func 28) [] []) [x.copy.av,x.av] m = some (.bool true,m) := by
 refine Idx.ind' (Q := fun x => x.Ok -> x.cnt < 1000000000000 -> ∀ m,cvl (C u) (.fn (.func 28) [] []) [x.copy.av,x.av] m = some (.bool true,m)) (fun k n s c l ih hok hc m => ?_) x
 refine call_runs (g := g28) (by rfl) (by rfl) (by rfl) ?_
 simp only [List.map_cons,List.map_nil,Idx.exp_av _ _ _ hok,Idx.exp_av _ _ _ (copy_ok _),g28,c28]
 simp only [Idx.cnt] at hc
 have hll := Idx.cnts_ge l
 have hcl : (Idx.avs (copies l)).length = l.length := by rw [avs_len,copies_len]
 obtain ⟨c',hc'⟩ : ∃ c',(Idx.mk k n s c l).copy = .mk k n s c' (copies l) := ⟨_,rfl⟩
 rw [hc']
 let K : St -> Prop := fun st => getE st.env 2 = .lptr 2 0 0 /\ getE st.env 3 = .lptr 3 0 0 /\ lget st.loc 2 = some (0,.cells [.int .i64 k,.int .i64 n,.str s,.list c' (Idx.avs (copies l))]) /\ lget st.loc 3 = some (0,.cells [.int .i64 k,.int .i64 n,.str s,.list c (Idx.avs l)]) ∧
  st.mem = { blks := m.blks,touched := [] }
 refine Runs.seq' (M := K) (by simp [K,Idx.av,newVer,exec,aops,astep,wantedA,aop,evO,setO,setU,getE,getE_setE,lget,lget_lset,aBin,aInt,aUn,AV.cells,newVar,padd,rd,wr,asElem,single,splice,aStr,adraw,ascan]) fun s1 ⟨h1,h2,h3,h4,h5⟩ => ?_
 refine Runs.seq' (M := K) (by simp [K,exec,aops,astep,wantedA,aop,evO,setO,setU,getE,getE_setE,lget,lget_lset,aBin,aInt,aUn,AV.cells,newVar,padd,rd,wr,asElem,single,splice,aStr,adraw,ascan,h1,h2,h3,h4,h5,avs_len,hcl]) fun s1 ⟨h1,h2,h3,h4,h5⟩ => ?_
 refine Runs.seq (M := fun s3 => s3.mem = { blks := m.blks,touched := [] }) ?_ fun s3 h3 => ?_
 ·let I : Nat -> St -> Prop := fun i st => K st /\ getE st.env 5 = .int .i64 i
  refine Runs.seq' (M := I 0) (by simp [I,K,exec,aops,astep,wantedA,aop,evO,setO,setU,getE,getE_setE,lget,lget_lset,aBin,aInt,aUn,AV.cells,newVar,padd,rd,wr,asElem,single,splice,aStr,adraw,ascan,h1,h2,h3,h4,h5]) fun s4 hI => ?_
  refine Runs.block (Runs.loop (I := I) l.length hI fun i st hi hst => ?_)
  obtain ⟨⟨h1,h2,h3,h4,h5⟩,q1⟩ := hst
  by_cases hlt : i < l.length
  ·have hw2 : IntKind.wrap .i64 ((i : Int) + 1) = (i : Int) + 1 := wrap_i64 (by omega) (by omega)
   left
   refine ⟨hlt,?_⟩
   have hg := avs_get l i hlt
   have hg2 := avs_get (copies l) i (by rw [copies_len]; exact hlt)
   rw [copies_get l i hlt] at hg2
   have ihy := ih l[i] (List.getElem_mem hlt) (Idx.oks_mem hok.2 _ (List.getElem_mem hlt)) (by have := Idx.cnt_mem (List.getElem_mem hlt); omega)
   generalize l[i] = y at hg hg2 ihy
   obtain ⟨k',n',s',c2,l'⟩ := y
   obtain ⟨c3,hc3⟩ : ∃ c3,(Idx.mk k' n' s' c2 l').copy = .mk k' n' s' c3 (copies l') := ⟨_,rfl⟩
   rw [hc3] at hg2 ihy
   simp only [Idx.av] at hg hg2 ihy
   simp [I,K,l28_0,exec,aops,astep,wantedA,aop,evO,setO,setU,getE,getE_setE,lget,lget_lset,aBin,aInt,aUn,AV.cells,newVar,padd,rd,wr,asElem,single,splice,aStr,adraw,ascan,h1,h2,h3,h4,h5,q1,hlt,hg,hg2,ihy,hw2,avs_len,copies_len]
  ·right
   have : i = l.length := by omega
   subst this
   simp [l28_0,exec,aops,astep,wantedA,aop,evO,setO,setU,getE,getE_setE,lget,lget_lset,aBin,aInt,aUn,AV.cells,newVar,padd,rd,wr,asElem,single,splice,aStr,adraw,ascan,h1,h2,h3,h4,h5,q1,avs_len,copies_len]
 ·simp [Runs,exec,aops,astep,wantedA,aop,evO,setO,setU,getE,getE_setE,lget,lget_lset,aBin,aInt,aUn,AV.cells,newVar,padd,rd,wr,asElem,single,splice,aStr,adraw,ascan,h3,gets,RV.get,tupled,frz_bool]
end Go.Abs.Tz
set_option maxRecDepth 100000
set_option maxHeartbeats 4000000
namespace Go.Abs.Tz
open Go.Abs
variable {u : Nat}
theorem copies_take (l : List Idx) (i : Nat) (h : i < l.length) : Idx.avs (copies (l.take (i + 1))) = Idx.avs (copies (l.take i)) ++ [l[i].copy.av] := by
 rw [copies_eq,copies_eq,Idx.avs_eq,Idx.avs_eq,List.take_succ_eq_append_getElem h,List.map_append,List.map_append]
 rfl
theorem shaped_avs (l : List Idx) : (Idx.avs l).all (shaped true 4) = true := by
 rw [Idx.avs_eq]
 simp only [List.all_map,List.all_eq_true,Function.comp]
 intro x _
 obtain ⟨k,n,s,c,l⟩ := x
 simp [Idx.av,shaped]
theorem frz_own (bs : List Blk) (N : Nat) (k n : Int) (s : List Nat) (c : Cap) (l : List Idx) (hl : Idx.Oks l) :
  frz bs N 8 (.agg [.int .i64 k,.int .i64 n,.str s,.list c (Idx.avs l)]) = .agg [.int .i64 k,.int .i64 n,.str s,.list (c.exp N false) (Idx.avs l)] := by
 have h : (Idx.avs l).map (frz bs N 8) = Idx.avs l := by
  rw [Idx.avs_eq,List.map_map]
  exact List.map_congr_left fun y hy => Idx.frz_av bs N 8 y (Idx.oks_mem hl y hy)
 simp only [frz] at h
 simp only [frz,frzW,frzWs,frzWs_eq,h]
theorem copies_ok (l : List Idx) : Idx.Oks (copies l) := by
 rw [copies_eq]
 induction l with
 | nil => trivial
 | cons a l ih => exact ⟨copy_ok a,ih⟩
theorem set_last (B : List Blk) (x y : Blk) : (B ++ [x]).set B.length y = B ++ [y] := by simp
theorem f21 (x : Idx) : x.Ok -> x.cnt < 1000000000000 -> ∀ m,cvl (C u) (.fn (.func 21) [] []) [x.av] m = some (x.copy.av,m) := by
 refine Idx.ind' (Q := fun x => x.Ok -> x.cnt < 1000000000000 -> ∀ m,cvl (C u) (.fn (.func 21) [] []) [x.av] m = some (x.copy.av,m)) (fun k n s c l ih hok hc m => ?_) x
 refine call_runs (g := g21) (by rfl) (by rfl) (by rfl) ?_
 simp only [List.map_cons,List.map_nil,Idx.exp_av _ _ _ hok,g21,c21]
 simp only [Idx.cnt] at hc
 have hll := Idx.cnts_ge l
 let K : St -> Prop := fun st => getE st.env 1 = .lptr 1 0 0 /\ lget st.loc 1 = some (0,.cells [.int .i64 k,.int .i64 n,.str s,.list c (Idx.avs l)])
 refine Runs.seq' (M := fun st => K st /\ st.mem = { blks := m.blks,touched := [] } /\ getE st.env 2 = .lptr 2 0 0 /\ lget st.loc 2 = some (0,.cells [.int .i64 0,.int .i64 0,.str [],.list .nil []])) (by simp [K,Idx.av,newVer,exec,aops,astep,wantedA,aop,evO,setO,setU,getE,getE_setE,lget,lget_lset,aBin,aInt,aUn,AV.cells,newVar,padd,rd,wr,asElem,single,splice,aStr,adraw,ascan]) fun s1 ⟨⟨h1,h2⟩,h3,h4,h5⟩ => ?_
 refine Runs.seq' (M := fun st => K st /\ st.mem = { blks := m.blks,touched := [] } /\ getE st.env 2 = .lptr 2 0 0 /\ lget st.loc 2 = some (0,.cells [.int .i64 0,.int .i64 0,.str [],.list .nil []]) ∧
  ∃ v,getE st.env 3 = .lptr 3 v 0 /\ lget st.loc 3 = some (v,.cells [.int .i64 k,.int .i64 n,.str s,.list .nil []])) (by simp [K,exec,aops,astep,wantedA,aop,evO,setO,setU,getE,getE_setE,lget,lget_lset,aBin,aInt,aUn,AV.cells,newVar,padd,rd,wr,asElem,single,splice,aStr,adraw,ascan,fills,h1,h2,h3,h4,h5]) fun s1 ⟨⟨h1,h2⟩,h3,h4,h5,v,h6,h7⟩ => ?_
 let cp : Nat -> Cap := fun i => if i = 0 then .nil else .own m.blks.length
 let bk : Nat -> List Blk := fun i => if i = 0 then [] else [.front i 4 27]
 let J : Nat -> St -> Prop := fun i st => getE st.env 2 = .lptr 2 0 0 /\ lget st.loc 2 = some (0,.cells [.int .i64 0,.int .i64 0,.str [],.list .nil []]) /\ getE st.env 3 = .lptr 3 v 0 /\ lget st.loc 3 = some (v,.cells [.int .i64 k,.int .i64 n,.str s,.list (cp i) (Idx.avs (copies (l.take i)))]) ∧
  st.mem = { blks := m.blks ++ bk i,touched := [] }
 refine Runs.seq (M := J l.length) ?_ fun s3 ⟨h4,h5,h6,h7,h3⟩ => ?_
 ·let I : Nat -> St -> Prop := fun i st => J i st /\ getE st.env 14 = .list c (Idx.avs l) /\ getE st.env 15 = .int .i64 l.length /\ getE st.env 16 = .int .i64 i
  refine Runs.seq' (M := I 0) (by simp [I,J,cp,bk,copies,Idx.avs,exec,aops,astep,wantedA,aop,evO,setO,setU,getE,getE_setE,lget,lget_lset,aBin,aInt,aUn,AV.cells,newVar,padd,rd,wr,asElem,single,splice,aStr,adraw,ascan,h1,h2,h3,h4,h5,h6,h7,avs_len]) fun s4 hI => ?_
  refine Runs.block (Runs.loop (I := I) l.length hI fun i st hi hst => ?_)
  obtain ⟨⟨h4,h5,h6,h7,h3⟩,q1,q2,q3⟩ := hst
  by_cases hlt : i < l.length
  ·have hw2 : IntKind.wrap .i64 ((i : Int) + 1) = (i : Int) + 1 := wrap_i64 (by omega) (by omega)
   left
   refine ⟨hlt,?_⟩
   have hg := avs_get l i hlt
   have ht := copies_take l i hlt
   have ihy := ih l[i] (List.getElem_mem hlt) (Idx.oks_mem hok.2 _ (List.getElem_mem hlt)) (by have := Idx.cnt_mem (List.getElem_mem hlt); omega)
   generalize l[i] = y at hg ihy ht
   obtain ⟨k',n',s',c2,l'⟩ := y
   obtain ⟨c3,hc3⟩ : ∃ c3,(Idx.mk k' n' s' c2 l').copy = .mk k' n' s' c3 (copies l') := ⟨_,rfl⟩
   rw [hc3] at ihy ht
   simp only [Idx.av] at hg ihy ht
   have hsh := shaped_avs (copies (l.take i))
   have hle : (Idx.avs (copies (l.take i))).length = i := by rw [avs_len,copies_len]; simp; omega
   have hnn : (Idx.avs (copies l')).map nol = Idx.avs (copies l') := by rw [Idx.avs_eq,List.map_map]; exact List.map_congr_left fun y _ => Idx.nol_av y
   have hb1 : (i + 1) * 56 <= 140737488355328 := by omega
   have hb2 : i + 1 <= 140737488355328 := by omega
   generalize Idx.avs (copies (l.take i)) = pre at h7 ht hsh hle
   by_cases hi0 : i = 0
   ·subst hi0
    have hp : pre = [] := List.eq_nil_of_length_eq_zero hle
    subst hp
    simp only [cp,bk,if_true] at h7 h3
    simp [I,J,cp,bk,l21_0,exec,aops,astep,wantedA,aop,evO,setO,setU,getE,getE_setE,lget,lget_lset,aBin,aInt,aUn,AV.cells,newVar,padd,rd,wr,asElem,single,splice,aStr,adraw,ascan,chkLoad,isSt,h3,h4,h5,h6,h7,q1,q2,q3,hlt,hg,ihy,hw2,avs_len,aApp,shaped,Mem.nol,nol,nols_eq,hnn,Mem.push,ht]
    have hwn : IntKind.wrap .i64 1 = 1 := by decide
    simp [hwn]
   ·simp only [cp,bk,hi0,if_false] at h7 h3
    simp [I,J,cp,bk,l21_0,exec,aops,astep,wantedA,aop,evO,setO,setU,getE,getE_setE,lget,lget_lset,aBin,aInt,aUn,AV.cells,newVar,padd,rd,wr,asElem,single,splice,aStr,adraw,ascan,chkLoad,isSt,h3,h4,h5,h6,h7,q1,q2,q3,hlt,hg,ihy,hw2,avs_len,aApp,shaped,Mem.nol,nol,nols_eq,hnn,Mem.put,ht,hi0,hsh,hle,hb1,hb2,set_last]
  ·right
   have : i = l.length := by omega
   subst this
   simp [J,l21_0,exec,aops,astep,wantedA,aop,evO,setO,setU,getE,getE_setE,lget,lget_lset,aBin,aInt,aUn,AV.cells,newVar,padd,rd,wr,asElem,single,splice,aStr,adraw,ascan,h3,h4,h5,h6,h7,q1,q2,q3]
 ·simp only [List.take_length] at h7
  have hfz := frz_own (m.blks ++ bk l.length) m.blks.length k n s (cp l.length) (copies l) (copies_ok l)
  have hcpe : (Idx.mk k n s c l).copy.av = .agg [.int .i64 k,.int .i64 n,.str s,.list ((cp l.length).exp m.blks.length false) (Idx.avs (copies l))] := by
   simp only [Idx.copy,Idx.av,cp]
   cases l with
   | nil => rfl
   | cons a l => simp [Cap.exp]
  simp [Runs,exec,aops,astep,wantedA,aop,evO,setO,setU,getE,getE_setE,lget,lget_lset,aBin,aInt,aUn,AV.cells,newVar,padd,rd,wr,asElem,single,splice,aStr,adraw,ascan,h3,h4,h5,h6,h7,gets,RV.get,tupled,hfz,hcpe]
end Go.Abs.Tz
set_option maxRecDepth 100000
set_option maxHeartbeats 4000000
namespace Go.Abs.Tz
open Go.Abs
variable {u : Nat}
def dm (B : List Blk) (most n : Int) : List Blk := B ++ [.cells [.int .i64 most],.cells [.int .i64 n],.cells [.fn (.func 96) [] [.gptr (B.length + 1) 0,.gptr B.length 0,.gptr (B.length + 2) 0]]]
theorem dm_len (B : List Blk) (most n : Int) : (dm B most n).length = B.length + 3 := by simp [dm]
theorem dm0 (B : List Blk) (most n : Int) : (dm B most n)[B.length]? = some (.cells [.int .i64 most]) := by simp [dm]
theorem dm1 (B : List Blk) (most n : Int) : (dm B most n)[B.length + 1]? = some (.cells [.int .i64 n]) := by simp [dm]
theorem dm2 (B : List Blk) (most n : Int) : (dm B most n)[B.length + 2]? = some (.cells [.fn (.func 96) [] [.gptr (B.length + 1) 0,.gptr B.length 0,.gptr (B.length + 2) 0]]) := by simp [dm]
theorem dm_set (B : List Blk) (most n n' : Int) : (dm B most n).set (B.length + 1) (.cells [.int .i64 n']) = dm B most n' := by simp [dm]
theorem f96 (B : List Blk) (most : Int) (x : Idx) : x.Ok -> ∀ (n : Nat) (T : List Nat),n + x.cnt < 1000000000000 -> ∃ n' : Nat,n' <= n + x.cnt ∧
  cvl (C u) (.fn (.func 96) [] [.gptr (B.length + 1) 0,.gptr B.length 0,.gptr (B.length + 2) 0]) [x.av] { blks := dm B most n,touched := T } = some (.tup [],{ blks := dm B most n',touched := T }) := by
 refine Idx.ind' (Q := fun x => x.Ok -> ∀ (n : Nat) (T : List Nat),n + x.cnt < 1000000000000 -> ∃ n' : Nat,n' <= n + x.cnt ∧
  cvl (C u) (.fn (.func 96) [] [.gptr (B.length + 1) 0,.gptr B.length 0,.gptr (B.length + 2) 0]) [x.av] { blks := dm B most n,touched := T } = some (.tup [],{ blks := dm B most n',touched := T })) (fun k nn s c l ih hok n T hc => ?_) x
 simp only [Idx.cnt] at hc ⊢
 have hll := Idx.cnts_ge l
 have d0 := dm0 B most
 have d1 := dm1 B most
 have d2 := dm2 B most
 have hrun : Runs (C u).gl (cvl (C u)) g96.code { env := ([(Idx.mk k nn s c l).av] ++ [AV.gptr (B.length + 1) 0,.gptr B.length 0,.gptr (B.length + 2) 0]).map (exp (dm B most n).length true),loc := [],mem := { blks := dm B most n,touched := [] } }
   fun r => (∀ i,r.1 ≠ .exit i) /\ ∃ n' : Nat,n' <= n + (1 + Idx.cnts l) /\ r.2.mem = { blks := dm B most n',touched := [] } := by
  have e1 : ([(Idx.mk k nn s c l).av] ++ [AV.gptr (B.length + 1) 0,.gptr B.length 0,.gptr (B.length + 2) 0]).map (exp (dm B most n).length true) = [(Idx.mk k nn s c l).av,AV.gptr (B.length + 1) 0,.gptr B.length 0,.gptr (B.length + 2) 0] := by
   have a1 : B.length + 1 < B.length + 3 := by omega
   have a2 : B.length < B.length + 3 := by omega
   simp only [List.cons_append,List.nil_append,List.map_cons,List.map_nil,Idx.exp_av _ _ _ hok,exp,dm_len]
   simp [a1,a2]
  rw [e1]
  simp only [g96,c96]
  have hw1 : IntKind.wrap .i64 ((n : Int) + 1) = (n : Int) + 1 := wrap_i64 (by omega) (by omega)
  let K : Nat -> St -> Prop := fun N st => getE st.env 1 = .gptr (B.length + 1) 0 /\ getE st.env 2 = .gptr B.length 0 /\ getE st.env 3 = .gptr (B.length + 2) 0 /\ getE st.env 4 = .lptr 4 0 0 /\ lget st.loc 4 = some (0,.cells [.int .i64 k,.int .i64 nn,.str s,.list c (Idx.avs l)]) ∧
   st.mem = { blks := dm B most (N : Int),touched := [] }
  refine Runs.seq' (M := K n) (by simp [K,Idx.av,newVer,exec,aops,astep,wantedA,aop,evO,setO,setU,getE,getE_setE,lget,lget_lset,aBin,aInt,aUn,AV.cells,newVar,padd,rd,wr,asElem,single,splice,aStr,adraw,ascan]) fun s1 ⟨h1,h2,h3,h4,h5,h6⟩ => ?_
  refine Runs.seq' (M := K (n + 1)) (by simp [K,exec,aops,astep,wantedA,aop,evO,setO,setU,getE,getE_setE,lget,lget_lset,aBin,aInt,aUn,AV.cells,newVar,padd,rd,wr,asElem,single,splice,aStr,adraw,ascan,h1,h2,h3,h4,h5,h6,d1,hw1,Mem.put,Mem.nol,nol,dm_set,los,lo]) fun s1 ⟨h1,h2,h3,h4,h5,h6⟩ => ?_
  by_cases hm : ((n : Int) + 1) <= most
  ·refine Runs.seq' (M := fun st => K (n + 1) st /\ getE st.env 11 = .bool true) (by simp [K,exec,aops,astep,wantedA,aop,evO,setO,setU,getE,getE_setE,lget,lget_lset,aBin,aInt,aUn,AV.cells,newVar,padd,rd,wr,asElem,single,splice,aStr,adraw,ascan,h1,h2,h3,h4,h5,h6,d0,d1,hm]) fun s1 ⟨⟨h1,h2,h3,h4,h5,h6⟩,h7⟩ => ?_
   have hcond : ∀ (a b : AC) (Q),Runs (C u).gl (cvl (C u)) a s1 Q -> Runs (C u).gl (cvl (C u)) (.cond (.t 11) a b) s1 Q := fun a b Q h => by
    obtain ⟨r,q1,q2⟩ := h
    exact ⟨r,by simp [exec,evO,h7,q1],q2⟩
   refine hcond _ _ _ ?_
   let I : Nat -> St -> Prop := fun i st => (∃ N : Nat,N <= n + (1 + Idx.cnts (l.take i)) /\ K N st) /\ getE st.env 13 = .list c (Idx.avs l) /\ getE st.env 14 = .int .i64 l.length /\ getE st.env 15 = .int .i64 i
   refine Runs.seq' (M := I 0) (by
    simp [I,K,exec,aops,astep,wantedA,aop,evO,setO,setU,getE,getE_setE,lget,lget_lset,aBin,aInt,aUn,AV.cells,newVar,padd,rd,wr,asElem,single,splice,aStr,adraw,ascan,h1,h2,h3,h4,h5,h6,avs_len]
    exact ⟨n + 1,by omega,by simp⟩) fun s4 hI => ?_
   refine Runs.block (Runs.loop (I := I) l.length hI fun i st hi hst => ?_)
   obtain ⟨⟨N,hN,h1,h2,h3,h4,h5,h6⟩,q1,q2,q3⟩ := hst
   by_cases hlt : i < l.length
   ·have hw2 : IntKind.wrap .i64 ((i : Int) + 1) = (i : Int) + 1 := wrap_i64 (by omega) (by omega)
    left
    refine ⟨hlt,?_⟩
    have hg := avs_get l i hlt
    have ht := cnts_take l i hlt
    have hle := cnts_le l (i + 1)
    obtain ⟨n',hn',ihy⟩ := ih l[i] (List.getElem_mem hlt) (Idx.oks_mem hok.2 _ (List.getElem_mem hlt)) N [] (by omega)
    generalize l[i] = y at hg ihy ht hn'
    obtain ⟨k',n2,s',c2,l'⟩ := y
    simp only [Idx.av] at hg ihy
    simp [I,K,l96_0,exec,aops,astep,wantedA,aop,evO,setO,setU,getE,getE_setE,lget,lget_lset,aBin,aInt,aUn,AV.cells,newVar,padd,rd,wr,asElem,single,splice,aStr,adraw,ascan,h1,h2,h3,h4,h5,h6,q1,q2,q3,hlt,hg,ihy,hw2,avs_len,d2]
    exact ⟨n',by omega,rfl⟩
   ·right
    have : i = l.length := by omega
    subst this
    simp only [List.take_length] at hN
    simp [l96_0,exec,aops,astep,wantedA,aop,evO,setO,setU,getE,getE_setE,lget,lget_lset,aBin,aInt,aUn,AV.cells,newVar,padd,rd,wr,asElem,single,splice,aStr,adraw,ascan,q1,q2,q3,h6]
    exact ⟨N,hN,rfl⟩
  ·simp [Runs,exec,aops,astep,wantedA,aop,evO,setO,setU,getE,getE_setE,lget,lget_lset,aBin,aInt,aUn,AV.cells,newVar,padd,rd,wr,asElem,single,splice,aStr,adraw,ascan,h1,h2,h3,h4,h5,h6,d0,d1,hm]
   exact ⟨n + 1,by omega,by simp⟩
 obtain ⟨⟨ex,s'⟩,r1,r2,n',r3,r4⟩ := hrun
 refine ⟨n',r3,?_⟩
 dsimp only at r4
 rw [call_keep (g := g96) (by rfl) (by rfl) (by rfl) r1 r2 (l := []) (by rfl),r4]
 simp [tupled,exp,exps]
end Go.Abs.Tz
set_option maxRecDepth 100000
set_option maxHeartbeats 8000000
namespace Go.Abs.Tz
open Go.Abs
variable {u : Nat}
theorem ofK {n : Nat} {fv : AV} {args : List AV} {m : Mem} {r : AV × Mem} (h : cvK (C u) n fv args m = some r) : cvl (C u) fv args m = some r := cvl_iff.2 ⟨n,cvK_spec (C u) n _ _ _ _ h⟩
theorem f18 (x : Idx) (hok : x.Ok) (hc : x.cnt < 100000000000) (m : Mem) : ∃ b,cvl (C u) (.fn (.func 18) [] []) [x.av,.int .i64 20] m = some (.bool b,m) := by
 obtain ⟨n',hn',hw⟩ := f96 (u := u) m.blks 20 x hok 0 [] (by omega)
 refine ⟨decide ((n' : Int) > 20),call_runs (g := g18) (by rfl) (by rfl) (by rfl) ?_⟩
 obtain ⟨k,n,s,c,l⟩ := x
 simp only [List.map_cons,List.map_nil,Idx.exp_av _ _ _ hok,exp,g18,c18]
 simp only [Idx.av] at hw ⊢
 let K : St -> Prop := fun st => getE st.env 2 = .lptr 2 0 0 /\ lget st.loc 2 = some (0,.cells [.int .i64 k,.int .i64 n,.str s,.list c (Idx.avs l)]) /\ getE st.env 3 = .gptr m.blks.length 0
 refine Runs.seq' (M := fun st => K st /\ st.mem = { blks := m.blks ++ [.cells [.int .i64 20]],touched := [] }) (by simp [K,newVer,exec,aops,astep,wantedA,aop,evO,setO,setU,getE,getE_setE,lget,lget_lset,aBin,aInt,aUn,AV.cells,newVar,padd,rd,wr,asElem,single,splice,aStr,adraw,ascan,Mem.push,Mem.nol,nol]) fun s1 ⟨⟨h1,h2,h3⟩,h4⟩ => ?_
 refine Runs.seq' (M := fun st => K st /\ getE st.env 5 = .gptr (m.blks.length + 1) 0 /\ st.mem = { blks := m.blks ++ [.cells [.int .i64 20],.cells [.int .i64 0]],touched := [] }) (by simp [K,exec,aops,astep,wantedA,aop,evO,setO,setU,getE,getE_setE,lget,lget_lset,aBin,aInt,aUn,AV.cells,newVar,padd,rd,wr,asElem,single,splice,aStr,adraw,ascan,h1,h2,h3,h4,Mem.push,Mem.put,Mem.nol,nol,los,lo]) fun s1 ⟨⟨h1,h2,h3⟩,h5,h4⟩ => ?_
 refine Runs.seq' (M := fun st => K st /\ getE st.env 5 = .gptr (m.blks.length + 1) 0 /\ getE st.env 6 = .gptr (m.blks.length + 2) 0 /\ st.mem = { blks := m.blks ++ [.cells [.int .i64 20],.cells [.int .i64 0],.cells [.nilfn]],touched := [] }) (by simp [K,exec,aops,astep,wantedA,aop,evO,setO,setU,getE,getE_setE,lget,lget_lset,aBin,aInt,aUn,AV.cells,newVar,padd,rd,wr,asElem,single,splice,aStr,adraw,ascan,h1,h2,h3,h4,h5,Mem.push,Mem.nol,nol]) fun s1 ⟨⟨h1,h2,h3⟩,h5,h6,h4⟩ => ?_
 refine Runs.seq' (M := fun st => K st /\ getE st.env 5 = .gptr (m.blks.length + 1) 0 /\ getE st.env 6 = .gptr (m.blks.length + 2) 0 /\ st.mem = { blks := dm m.blks 20 0,touched := [] }) (by simp [K,dm,exec,aops,astep,wantedA,aop,evO,setO,setU,getE,getE_setE,lget,lget_lset,aBin,aInt,aUn,AV.cells,newVar,padd,rd,wr,asElem,single,splice,aStr,adraw,ascan,h1,h2,h3,h4,h5,h6,Mem.put,Mem.nol,nol,nols,los,lo,Fn.below]) fun s1 ⟨⟨h1,h2,h3⟩,h5,h6,h4⟩ => ?_
 have d0 := dm0 m.blks 20
 have d1 := dm1 m.blks 20
 have d2 := dm2 m.blks 20
 have hw' : cvl (C u) (.fn (.func 96) [] [.gptr (m.blks.length + 1) 0,.gptr m.blks.length 0,.gptr (m.blks.length + 2) 0]) [.agg [.int .i64 k,.int .i64 n,.str s,.list c (Idx.avs l)]] { blks := dm m.blks 20 0,touched := [] } = some (.tup [],{ blks := dm m.blks 20 n',touched := [] }) := by simpa using hw
 refine Runs.seq' (M := fun st => getE st.env 5 = .gptr (m.blks.length + 1) 0 /\ getE st.env 3 = .gptr m.blks.length 0 /\ st.mem = { blks := dm m.blks 20 n',touched := [] }) (by simp [exec,aops,astep,wantedA,aop,evO,setO,setU,getE,getE_setE,lget,lget_lset,aBin,aInt,aUn,AV.cells,newVar,padd,rd,wr,asElem,single,splice,aStr,adraw,ascan,h1,h2,h3,h4,h5,h6,d2,hw']) fun s1 ⟨h5,h3,h4⟩ => ?_
 simp [Runs,exec,aops,astep,wantedA,aop,evO,setO,setU,getE,getE_setE,lget,lget_lset,aBin,aInt,aUn,AV.cells,newVar,padd,rd,wr,asElem,single,splice,aStr,adraw,ascan,h3,h4,h5,d0,d1,gets,RV.get,tupled,frz_bool]
 exact ⟨_,rfl⟩
noncomputable def tbl : List (Nat × List AV × AV) := [(39,a0,r0),(70,a1,r1),(72,a2,r2),(39,a3,r3),(39,a4,r4),(39,a5,r5),(26,a6,r6),(32,a7,r7),(56,a8,r8)]
def look (f : Nat) (args : List AV) : List (Nat × List AV × AV) -> Option AV
 | [] => none
 | (f',a,r) :: l => cond (Nat.beq f f' && AV.beqs args a) (some r) (look f args l)
noncomputable def orc : CallV := fun fv args mem => match fv,mem with
 | .fn (.func f) [] [],⟨[],[]⟩ => (look f args tbl).map fun r => (r,⟨[],[]⟩)
 | _,_ => none
theorem look_spec {f : Nat} {args : List AV} {r : AV} : ∀ {l : List (Nat × List AV × AV)},look f args l = some r -> ∃ e ∈ l,e.1 = f /\ e.2.1 = args /\ e.2.2 = r := by
 intro l
 induction l with
 | nil => intro h; cases h
 | cons e l ih =>
  obtain ⟨f',a,r'⟩ := e
  intro h
  simp only [look] at h
  cases hb : Nat.beq f f' && AV.beqs args a with
  | true =>
   rw [hb] at h
   simp only [Bool.and_eq_true] at hb
   cases h
   exact ⟨_,List.mem_cons_self,(Nat.eq_of_beq_eq_true hb.1).symm,(AV.eq_of_beqs _ _ hb.2).symm,rfl⟩
  | false =>
   rw [hb] at h
   obtain ⟨e,h1,h2⟩ := ih h
   exact ⟨e,List.mem_cons_of_mem _ h1,h2⟩
theorem tbl_ok : ∀ e ∈ tbl,cvl (C u) (.fn (.func e.1) [] []) e.2.1 { blks := [],touched := [] } = some (e.2.2,{ blks := [],touched := [] }) := by
 intro e he
 simp only [tbl,List.mem_cons,List.not_mem_nil,or_false] at he
 rcases he with rfl | rfl | rfl | rfl | rfl | rfl | rfl | rfl | rfl
 ·exact ofK (aw0 u)
 ·exact ofK (aw1 u)
 ·exact ofK (aw2 u)
 ·exact ofK (aw3 u)
 ·exact ofK (aw4 u)
 ·exact ofK (aw5 u)
 ·exact ofK (aw6 u)
 ·exact ofK (aw7 u)
 ·exact ofK (aw8 u)
theorem orc_le : orc.le (cvl (C u)) := by
 intro fv args mem r h
 unfold orc at h
 split at h
 ·obtain ⟨r',h1,rfl⟩ := Option.map_eq_some_iff.1 h
  obtain ⟨e,h2,rfl,rfl,rfl⟩ := look_spec h1
  exact tbl_ok e h2
 ·cases h
theorem lpl_le : LoopV.le lpl lpl := by
 intro b b' hb s r h
 obtain ⟨n,hn⟩ := lpl_iff.1 h
 exact lpl_iff.2 ⟨n,aloop_mono n n (Nat.le_refl _) b b' hb s r hn⟩
noncomputable def awakeK (u : Nat) : Option (Bool × Mem) := match execK c19 (gl u) orc (fun _ _ => none) (ksOf [] { blks := [],touched := [] }) with
 | some (.ret,k) => match getT k.t 0 with
  | .bool b => some (b,k.mem)
  | _ => none
 | _ => none
theorem awakeK_eq (u : Nat) : awakeK u = some (true,{ blks := [],touched := [] }) := by kernel_rfl
theorem f19 : cvl (C u) (.fn (.func 19) [] []) [] { blks := [],touched := [] } = some (.bool true,{ blks := [],touched := [] }) := by
 have h := awakeK_eq u
 unfold awakeK at h
 split at h
 ·rename_i k hk
  split at h
  ·rename_i b hb
   simp only [Option.some.injEq,Prod.mk.injEq] at h
   obtain ⟨rfl,hm⟩ := h
   obtain ⟨s',h1,h2⟩ := execK_spec (lp := lpl) (fun _ _ _ _ _ _ _ _ h => by cases h) c19 _ _ _ _ (ksOf_spec _ _) hk
   have h3 := exec_mono (orc_le (u := u)) lpl_le _ _ _ h1
   refine call_runs (g := g19) (by rfl) (by rfl) (by rfl) ⟨_,h3,by simp,⟨[],?_⟩,[.bool true],?_,rfl⟩
   ·rw [<- h2.2.2.2,hm]; rfl
   ·simp only [g19,gets,RV.get,<- h2.1,hb,Option.map_some]
  ·cases h
 ·cases h
end Go.Abs.Tz
