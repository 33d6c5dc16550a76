/- A text of this proof. -/
import Derived.Test.YtiigojkfojnedaaGreatDoorPHa
import Derived.Test.YtiigojkfojnedaaGreatDoorPLa
set_option linter.unusedVariables false
set_option linter.unusedSimpArgs false
set_option maxRecDepth 100000
set_option maxHeartbeats 4000000
namespace Go.Abs.Tz
open Go.Abs
variable {u : Nat}
attribute [local simp] exec aops astep wantedA aop evO setO setU getE getE_setE lget lget_lset aBin aInt aUn AV.cells newVar padd rd wr asElem single splice aStr adraw ascan Runs gets RV.get tupled frz_int frz_bool
structure Nme where
 name : List Nat
 w : Int
 d : Int
def Nme.av (x : Nme) : AV := .agg [.str x.name,.int .i64 x.w,.int .i64 x.d]
def nmsAV (c : Cap) (l : List Nme) : AV := .list c (l.map Nme.av)
theorem exp_nms {n : Nat} {k : Bool} {c : Cap} (hc : okCap c) (l : List Nme) : exp n k (nmsAV c l) = nmsAV c l := by
 have : exps n k (l.map Nme.av) = l.map Nme.av := by
  rw [exps_eq,List.map_map]
  exact List.map_congr_left fun x _ => rfl
 simp only [nmsAV,exp,exp_cap hc,this]
theorem frz_nms (bs : List Blk) (n : Nat) (c : Cap) (l : List Nme) : frz bs n 8 (nmsAV c l) = nmsAV (c.exp n false) l := by
 simp only [nmsAV,frz,frzW,frzWs_eq,List.map_map]
 congr 1
theorem frz_nm (bs : List Blk) (n : Nat) (a : List Nat) (w d : Int) : frz bs n 8 (.agg [.str a,.int .i64 w,.int .i64 d]) = .agg [.str a,.int .i64 w,.int .i64 d] := rfl
theorem frz_str (bs : List Blk) (n : Nat) (a : List Nat) : frz bs n 8 (.str a) = .str a := rfl
def findN : List Nme -> List Nat -> Nme
 | [],_ => ⟨[],0,0⟩
 | x :: l,s => if x.name = s then x else findN l s
theorem findN_at {l : List Nme} {s : List Nat} {i : Nat} (hi : i < l.length) (h : ∀ j (hj : j < l.length),j < i -> l[j].name ≠ s) (he : l[i].name = s) : findN l s = l[i] := by
 induction l generalizing i with
 | nil => simp at hi
 | cons a l ih =>
  cases i with
  | zero => simp only [List.getElem_cons_zero] at he ⊢; simp [findN,he]
  | succ i =>
   have h0 := h 0 (by simp) (by omega)
   simp only [List.getElem_cons_zero] at h0
   simp only [List.getElem_cons_succ] at he ⊢
   simp only [findN,h0,if_false]
   exact ih (by simpa using hi) (fun j hj hji => by have := h (j + 1) (by simp; omega) (by omega); simpa using this) he
theorem findN_no {l : List Nme} {s : List Nat} (h : ∀ j (hj : j < l.length),l[j].name ≠ s) : findN l s = ⟨[],0,0⟩ := by
 induction l with
 | nil => rfl
 | cons a l ih =>
  have h0 := h 0 (by simp)
  simp only [List.getElem_cons_zero] at h0
  simp only [findN,h0,if_false]
  exact ih fun j hj => by have := h (j + 1) (by simp; omega); simpa using this
theorem f165 (c : Cap) (hc : okCap c) (l : List Nme) (s : List Nat) (hl : l.length < 1000000000000) (m : Mem) : cvl (C u) (.fn (.func 165) [] []) [nmsAV c l,.str s] m = some ((findN l s).av,m) := by
 refine call_runs (g := g165) (by rfl) (by rfl) (by rfl) ?_
 simp only [List.map_cons,List.map_nil,exp_nms hc,exp,g165,c165]
 let K : St -> Prop := fun st => getE st.env 0 = nmsAV c l /\ getE st.env 1 = .str s /\ getE st.env 4 = .lptr 4 0 0 /\ lget st.loc 4 = some (0,.cells [.str [],.int .i64 0,.int .i64 0]) /\ st.mem = { blks := m.blks,touched := [] }
 refine Runs.seq' (M := K) (by simp [K,newVer]) fun s1 ⟨h1,h2,h3,h4,h5⟩ => ?_
 refine Runs.seq (M := fun st => K st /\ findN l s = ⟨[],0,0⟩) ?_ fun s2 ⟨⟨h1,h2,h3,h4,h5⟩,h6⟩ => ?_
 ·let I : Nat -> St -> Prop := fun i st => K st /\ getE st.env 5 = .int .i64 i /\ ∀ j (hj : j < l.length),j < i -> l[j].name ≠ s
  refine Runs.seq' (M := I 0) (by simp [I,K,h1,h2,h3,h4,h5]) fun s4 hI => ?_
  refine Runs.block (Runs.loop (I := I) l.length hI fun i st hi hst => ?_)
  obtain ⟨⟨h1,h2,h3,h4,h5⟩,q1,q2⟩ := hst
  simp only [nmsAV] at h1
  rcases Nat.lt_or_ge i l.length with hlt | hge
  ·have hw : IntKind.wrap .i64 ((i : Int) + 1) = (i : Int) + 1 := wrap_i64 (by omega) (by omega)
   by_cases he : l[i].name = s
   ·right
    have hf := findN_at hlt q2 he
    rw [hf]
    simp [l165_0,h1,h2,h3,h4,h5,q1,hlt,he,Nme.av,frz_nm]
   ·left
    refine ⟨hlt,?_⟩
    simp [I,K,l165_0,h1,h2,h3,h4,h5,q1,hlt,he,hw,Nme.av,nmsAV]
    exact fun j hj hji => before_succ (P := fun j => ∀ hj : j < l.length,l[j].name ≠ s) (n := l.length) (fun j a b c => q2 j c b) (fun _ => he) j hj hji hj
  ·right
   have : i = l.length := by omega
   subst this
   have hf := findN_no fun j hj => q2 j hj hj
   simp [K,l165_0,h1,h2,h3,h4,h5,q1,hf,nmsAV]
 ·simp [h1,h2,h3,h4,h5,h6,fills,Nme.av,frz_nm]
theorem nm_lv (n : Nat) (x : Nme) : Lv n x.av x.av := ⟨fun _ => rfl,rfl⟩
theorem nms_lv (n : Nat) (l : List Nme) : Lvs true n 3 (l.map Nme.av) (l.map Nme.av) := Lvs.of _ _ fun x _ => ⟨nm_lv n x,rfl⟩
theorem f166 (c : Cap) (hc : okCap c) (l : List Nme) (s : List Nat) (w d : Int) (hl : l.length < 1000000000000) (m : Mem) :
  cvl (C u) (.fn (.func 166) [] []) [nmsAV c l,.str s,.int .i64 w,.int .i64 d] m = some (nmsAV .any (l ++ [⟨s,w,d⟩]),m) := by
 refine call_runs (g := g166) (by rfl) (by rfl) (by rfl) ?_
 simp only [List.map_cons,List.map_nil,exp_nms hc,exp,g166,c166]
 have hv := nms_lv m.blks.length l
 obtain ⟨c1,e1,a1,r1⟩ := row_full (B := m.blks) (ext := []) (bytes := 32) (e := 235) (c := c) hv.s hv.n (by decide) (by simp; omega) (by simp; omega)
 have hx := nm_lv m.blks.length ⟨s,w,d⟩
 obtain ⟨c2,e2,a2,r2,-⟩ := row_app (bytes := 32) r1 hv.s (v := Nme.av ⟨s,w,d⟩) rfl hx.n (by decide) (by simp; omega) (by simp; omega)
 have hz := ((hv.snoc hx rfl).list c2).z
 rw [r2.exp' (by omega)] at hz
 simp only [List.append_nil] at a1
 have hr : nmsAV .any (l ++ [⟨s,w,d⟩]) = .list .any (l.map Nme.av ++ [Nme.av ⟨s,w,d⟩]) := by simp [nmsAV]
 rw [hr,<- hz (m.blks ++ e2)]
 simp only [nmsAV,Nme.av] at *
 simp [a1,a2,Mem.nol,nol,nols,fills,shaped]
theorem f219 (c : Cap) (hc : okCap c) (l : List Nme) (s : List Nat) (hl : l.length < 1000000000000) (m : Mem) :
  ∃ c',okCap c' /\ cvl (C u) (.fn (.func 219) [] []) [nmsAV c l,.str s] m = some (nmsAV c' (l.filter fun x => x.name != s),m) := by
 have hx : Runs (C u).gl (cvl (C u)) g219.code { env := [nmsAV c l,.str s].map (exp m.blks.length false),loc := [],mem := { blks := m.blks,touched := [] } } fun r =>
   (∀ i,r.1 ≠ .exit i) /\ ∃ c' ext k,getE r.2.env 4 = nmsAV c' (l.filter fun x => x.name != s) /\ r.2.mem = { blks := m.blks ++ ext,touched := [] } /\ Row m.blks.length (m.blks ++ ext) 3 235 c' k := by
  simp only [List.map_cons,List.map_nil,exp_nms hc,exp,g219,c219]
  let K : St -> Prop := fun st => getE st.env 0 = nmsAV c l /\ getE st.env 1 = .str s
  let F : Nat -> List Nme := fun i => (l.take i).filter fun x => x.name != s
  let J : Nat -> St -> Prop := fun i st => ∃ c' ext,getE st.env 5 = nmsAV c' (F i) /\ st.mem = { blks := m.blks ++ ext,touched := [] } /\ Row m.blks.length (m.blks ++ ext) 3 235 c' (F i).length
  refine Runs.seq' (M := fun st => K st /\ st.mem = { blks := m.blks,touched := [] }) (by simp [K]) fun s1 ⟨⟨h1,h2⟩,h3⟩ => ?_
  refine Runs.seq' (M := fun st => K st /\ J 0 st) (by simp [K,J,F,h1,h2,h3]; exact ⟨.nil,rfl,Row.nil⟩) fun s1 ⟨⟨h1,h2⟩,h3⟩ => ?_
  refine Runs.seq (M := J l.length) ?_ fun s2 ⟨c',ext,h1,h2,h3⟩ => ?_
  ·let I : Nat -> St -> Prop := fun i st => K st /\ J i st /\ getE st.env 6 = .int .i64 i
   refine Runs.seq' (M := I 0) (by
    obtain ⟨c',ext,q1,q2,q3⟩ := h3
    simp [I,K,J,h1,h2,q1,q2]
    first | exact q3 | exact ⟨c',rfl,q3⟩) fun s4 hI => ?_
   refine Runs.block (Runs.loop (I := I) l.length hI fun i st hi hst => ?_)
   obtain ⟨⟨h1,h2⟩,⟨c',ext,q1,q2,q3⟩,q4⟩ := hst
   simp only [nmsAV] at h1 q1
   rcases Nat.lt_or_ge i l.length with hlt | hge
   ·left
    refine ⟨hlt,?_⟩
    have hw : IntKind.wrap .i64 ((i : Int) + 1) = (i : Int) + 1 := wrap_i64 (by omega) (by omega)
    have hF : F (i + 1) = if (l[i].name != s) = true then F i ++ [l[i]] else F i := by
     simp only [F,List.take_succ_eq_append_getElem hlt,List.filter_append,List.filter_cons,List.filter_nil]
     split <;> simp
    have hFl : (F i).length <= i := by
     have := List.length_filter_le (fun x : Nme => x.name != s) (l.take i)
     rw [List.length_take] at this
     simp only [F]; omega
    by_cases he : l[i].name = s
    ·have he' : (l[i].name != s) = false := by simpa using he
     simp only [he',Bool.false_eq_true,if_false] at hF
     simp [I,K,J,l219_0,h1,h2,q1,q2,q4,hlt,he,hw,Nme.av,nmsAV,hF]
     first | exact q3 | exact ⟨c',rfl,q3⟩
    ·have he' : (l[i].name != s) = true := by simpa using he
     simp only [he',if_true] at hF
     have hv := nms_lv m.blks.length (F i)
     have hxx := nm_lv m.blks.length l[i]
     obtain ⟨c2,e2,a2,r2,-⟩ := row_app (bytes := 32) (l := (F i).map Nme.av) (by simpa using q3) hv.s (v := l[i].av) rfl hxx.n (by decide) (by simp; omega) (by simp; omega)
     simp only [Nme.av] at a2
     simp [I,K,J,l219_0,h1,h2,q1,q2,q4,hlt,he,he',hw,Nme.av,nmsAV,hF,Mem.nol,nol,nols,a2,shaped]
     first | simpa using r2 | exact ⟨c2,rfl,by simpa using r2⟩
   ·right
    have : i = l.length := by omega
    subst this
    simp [J,l219_0,h1,h2,q1,q2,q4,nmsAV]
    first | exact q3 | exact ⟨c',rfl,q3⟩
  ·simp only [F,List.take_length] at h1 h3
   simp [h1,h2]
   exact ⟨c',rfl,_,h3⟩
 obtain ⟨r,h1,h2,c',ext,k,h3,h4,h5⟩ := hx
 refine ⟨c'.exp m.blks.length false,?_,call_runs (g := g219) (by rfl) (by rfl) (by rfl) ⟨r,h1,h2,⟨ext,h4⟩,[_],by simp [g219]; exact h3,frz_nms _ _ _ _⟩⟩
 rcases h5 with ⟨rfl | rfl,_⟩ | ⟨t,rfl,ht,_⟩
 ·exact .inl rfl
 ·exact .inr rfl
 ·right; simp [Cap.exp]
def procI (ps : List Prc) (s : List Nat) : Int := match procN ps s with
 | none => -1
 | some i => i
theorem f150 (c : Cap) (hc : okCap c) (ps : List Prc) (hps : ∀ x ∈ ps,x.Ok) (s : List Nat) (hl : ps.length < 1000000000000) (m : Mem) :
  cvl (C u) (.fn (.func 150) [] []) [.agg [.list c (ps.map Prc.av)],.str s] m = some (.int .i64 (procI ps s),m) := by
 refine call_runs (g := g150) (by rfl) (by rfl) (by rfl) ?_
 have hexp : ∀ n k,exps n k (ps.map Prc.av) = ps.map Prc.av := fun n k => by
  rw [exps_eq,List.map_map]; exact List.map_congr_left fun x hx => Prc.exp_av n k x (hps x hx)
 simp only [List.map_cons,List.map_nil,exp,exps,exp_cap hc,hexp,g150,c150]
 let K : St -> Prop := fun st => getE st.env 1 = .str s /\ getE st.env 2 = .lptr 2 0 0 /\ lget st.loc 2 = some (0,.cells [.list c (ps.map Prc.av)]) /\ st.mem = { blks := m.blks,touched := [] }
 refine Runs.seq' (M := K) (by simp [K,newVer]) fun s1 ⟨h1,h2,h3,h4⟩ => ?_
 refine Runs.seq (M := fun st => K st /\ procI ps s = -1) ?_ fun s2 ⟨⟨h1,h2,h3,h4⟩,h5⟩ => ?_
 ·let I : Nat -> St -> Prop := fun i st => K st /\ getE st.env 5 = .int .i64 i /\ ∀ j (hj : j < ps.length),j < i -> ps[j].name ≠ s
  refine Runs.seq' (M := I 0) (by simp [I,K,h1,h2,h3,h4]) fun s4 hI => ?_
  refine Runs.block (Runs.loop (I := I) ps.length hI fun i st hi hst => ?_)
  obtain ⟨⟨h1,h2,h3,h4⟩,q1,q2⟩ := hst
  rcases Nat.lt_or_ge i ps.length with hlt | hge
  ·have hw : IntKind.wrap .i64 ((i : Int) + 1) = (i : Int) + 1 := wrap_i64 (by omega) (by omega)
   by_cases he : ps[i].name = s
   ·right
    have hf : procI ps s = i := by
     have : procN ps s = some i := by
      rw [procN,List.findIdx?_eq_some_iff_getElem]
      exact ⟨hlt,by simpa using he,fun j hj => by simpa using q2 j (by omega) hj⟩
     simp [procI,this]
    simp [l150_0,h1,h2,h3,h4,q1,hlt,he,Prc.av,hf]
   ·left
    refine ⟨hlt,?_⟩
    simp [I,K,l150_0,h1,h2,h3,h4,q1,hlt,he,hw,Prc.av]
    exact fun j hj hji => before_succ (P := fun j => ∀ hj : j < ps.length,ps[j].name ≠ s) (n := ps.length) (fun j a b c => q2 j c b) (fun _ => he) j hj hji hj
  ·right
   have : i = ps.length := by omega
   subst this
   have hf : procI ps s = -1 := by
    have : procN ps s = none := by
     rw [procN,List.findIdx?_eq_none_iff]
     intro x hx
     obtain ⟨j,hj,rfl⟩ := List.getElem_of_mem hx
     simpa using q2 j hj hj
    simp [procI,this]
   simp [K,l150_0,h1,h2,h3,h4,q1,hf]
 ·simp [h1,h2,h3,h4,h5]
end Go.Abs.Tz
set_option maxRecDepth 100000
set_option maxHeartbeats 4000000
namespace Go.Abs.Tz
open Go.Abs
variable {u : Nat}
attribute [local simp] exec aops astep wantedA aop evO setO setU getE getE_setE lget lget_lset aBin aInt aUn AV.cells newVar padd rd wr asElem single splice aStr adraw ascan Runs gets RV.get tupled frz_int frz_bool
theorem f149 (x : Stp) (hx : x.Ok) (m : Mem) : cvl (C u) (.fn (.func 149) [] []) [x.av] m = some (.tup [.bool (hasBody x.kind),.bool (hasElse x.kind)],m) := by
 refine call_runs (g := g149) (by rfl) (by rfl) (by rfl) ?_
 simp only [List.map_cons,List.map_nil,Stp.exp_av _ _ _ hx,g149,c149]
 obtain ⟨k,g,nm,cp,pl,⟨k1,n1,s1,c1,l1⟩,⟨k2,n2,s2,c2,l2⟩,cb,body,ce,els⟩ := x
 by_cases e4 : k = 4
 ·subst e4; simp [Stp.av,Stp.cells,Idx.four,newVer,Stp.kind,hasBody,hasElse]; rfl
 by_cases e8 : k = 8
 ·subst e8; simp [Stp.av,Stp.cells,Idx.four,newVer,Stp.kind,hasBody,hasElse]; rfl
 by_cases e10 : k = 10
 ·subst e10; simp [Stp.av,Stp.cells,Idx.four,newVer,Stp.kind,hasBody,hasElse]; rfl
 by_cases e7 : k = 7
 ·subst e7; simp [Stp.av,Stp.cells,Idx.four,newVer,Stp.kind,hasBody,hasElse]; rfl
 by_cases e11 : k = 11
 ·subst e11; simp [Stp.av,Stp.cells,Idx.four,newVer,Stp.kind,hasBody,hasElse]; rfl
 simp [Stp.av,Stp.cells,Idx.four,newVer,Stp.kind,hasBody,hasElse,e4,e8,e10,e7,e11,ne_true]; rfl
theorem f257 (g : Int) (m : Mem) : cvl (C u) (.fn (.func 257) [] []) [.int .i64 g] m = some (.int .i64 (arityN g),m) := by
 refine call_runs (g := g257) (by rfl) (by rfl) (by rfl) ?_
 by_cases h1 : g <= 8
 ·simp [g257,c257,exp,arityN,h1]
 by_cases h2 : g <= 11
 ·simp [g257,c257,exp,arityN,h1,h2]
 ·simp [g257,c257,exp,arityN,h1,h2]
theorem stps_len (l : List Stp) : (Stp.avs l).length = l.length := by rw [Stp.avs_eq]; simp
theorem stp_get (l : List Stp) (i : Nat) (h : i < l.length) : (Stp.avs l)[i]'(by rw [stps_len]; exact h) = l[i].av := by simp [Stp.avs_eq]
theorem cnts_stp (l : List Stp) (i : Nat) (h : i < l.length) : Stp.cnts (l.take (i + 1)) = Stp.cnts (l.take i) + l[i].cnt := by
 induction l generalizing i with
 | nil => simp at h
 | cons a l ih =>
  cases i with
  | zero => simp [Stp.cnts]
  | succ i => simp only [List.take_succ_cons,Stp.cnts,List.getElem_cons_succ,ih i (by simpa using h)]; omega
theorem deeps_stp (l : List Stp) (i : Nat) (h : i < l.length) : Stp.deeps (l.take (i + 1)) = max (Stp.deeps (l.take i)) l[i].deep := by
 induction l generalizing i with
 | nil => simp at h
 | cons a l ih =>
  cases i with
  | zero => simp [Stp.deeps]
  | succ i => simp only [List.take_succ_cons,Stp.deeps,List.getElem_cons_succ,ih i (by simpa using h),Nat.max_assoc]
theorem Stp.cnt_le_wt (x : Stp) : x.cnt <= x.wt /\ x.deep <= x.wt := by
 refine Stp.ind' (Q := fun x => x.cnt <= x.wt /\ x.deep <= x.wt) (fun k g nm cp pl size to cb body ce els h1 h2 => ?_) x
 have go : ∀ l : List Stp,(∀ y ∈ l,y.cnt <= y.wt /\ y.deep <= y.wt) -> Stp.cnts l <= Stp.wts l /\ Stp.deeps l <= Stp.wts l := by
  intro l hl
  induction l with
  | nil => simp [Stp.cnts,Stp.deeps]
  | cons a l ih =>
   have := ih fun y hy => hl y (by simp [hy])
   have ha := hl a (by simp)
   simp only [Stp.cnts,Stp.deeps,Stp.wts]; omega
 have a1 := go body h1
 have a2 := go els h2
 simp only [Stp.cnt,Stp.deep,Stp.wt]
 split <;> split <;> omega
theorem Stp.cnts_le_wts (l : List Stp) : Stp.cnts l <= Stp.wts l /\ Stp.deeps l <= Stp.wts l := by
 induction l with
 | nil => simp [Stp.cnts,Stp.deeps]
 | cons a l ih => have := Stp.cnt_le_wt a; simp only [Stp.cnts,Stp.deeps,Stp.wts]; omega
theorem wts_take (l : List Stp) (i : Nat) : Stp.wts (l.take i) <= Stp.wts l := by
 induction l generalizing i with
 | nil => simp
 | cons a l ih => cases i with
  | zero => simp [Stp.wts]
  | succ i => have := ih i; simp only [List.take_succ_cons,Stp.wts]; omega
theorem exp_stps {n : Nat} {k : Bool} {c : Cap} (hc : okCap c) {l : List Stp} (h : Stp.Oks l) : exp n k (.list c (Stp.avs l)) = .list c (Stp.avs l) := by
 simp only [exp,exp_cap hc,Stp.exp_avs _ _ _ h]
theorem Stp.oks_body {x : Stp} (h : x.Ok) : Stp.Oks x.body /\ Stp.Oks x.els := by
 obtain ⟨k,g,nm,cp,pl,size,to,cb,body,ce,els⟩ := x
 simp only [Stp.Ok] at h
 exact ⟨h.2.2.2.2.2.2.1,h.2.2.2.2.2.2.2.2⟩
theorem f148 (l : List Stp) : ∀ (c : Cap),okCap c -> Stp.Oks l -> Stp.wts l < 1000000000000 -> ∀ m,cvl (C u) (.fn (.func 148) [] []) [.list c (Stp.avs l)] m = some (.tup [.int .i64 (Stp.cnts l),.int .i64 (Stp.deeps l)],m) := by
 refine Stp.lists (P := fun l => ∀ (c : Cap),okCap c -> Stp.Oks l -> Stp.wts l < 1000000000000 -> ∀ m,cvl (C u) (.fn (.func 148) [] []) [.list c (Stp.avs l)] m = some (.tup [.int .i64 (Stp.cnts l),.int .i64 (Stp.deeps l)],m)) (fun l ih c hc hok hw m => ?_) l
 refine call_runs (g := g148) (by rfl) (by rfl) (by rfl) ?_
 simp only [List.map_cons,List.map_nil,exp_stps hc hok,g148,c148]
 have hll := Stp.wts_len l
 let K : St -> Prop := fun st => getE st.env 0 = .list c (Stp.avs l) /\ st.mem = { blks := m.blks,touched := [] }
 refine Runs.seq' (M := K) (by simp [K]) fun s1 ⟨h1,h2⟩ => ?_
 refine Runs.seq' (M := fun st => K st /\ getE st.env 4 = .int .i64 0 /\ getE st.env 5 = .int .i64 0) (by simp [K,h1,h2]) fun s1 ⟨⟨h1,h2⟩,h3,h4⟩ => ?_
 refine Runs.seq (M := fun st => K st /\ getE st.env 4 = .int .i64 (Stp.cnts l) /\ getE st.env 5 = .int .i64 (Stp.deeps l)) ?_ fun s2 ⟨⟨h1,h2⟩,h3,h4⟩ => ?_
 ·let I : Nat -> St -> Prop := fun i st => K st /\ getE st.env 6 = .int .i64 i /\ getE st.env 4 = .int .i64 (Stp.cnts (l.take i)) /\ getE st.env 5 = .int .i64 (Stp.deeps (l.take i))
  refine Runs.seq' (M := I 0) (by simp [I,K,h1,h2,h3,h4,Stp.cnts,Stp.deeps]) fun s4 hI => ?_
  refine Runs.block (Runs.loop (I := I) l.length hI fun i st hi hst => ?_)
  obtain ⟨⟨h1,h2⟩,q1,q2,q3⟩ := hst
  rcases Nat.lt_or_ge i l.length with hlt | hge
  ·left
   refine ⟨hlt,?_⟩
   have hwi : IntKind.wrap .i64 ((i : Int) + 1) = (i : Int) + 1 := wrap_i64 (by omega) (by omega)
   have hg := stp_get l i hlt
   have t1 := cnts_stp l i hlt
   have t2 := deeps_stp l i hlt
   have hm : l[i] ∈ l := List.getElem_mem hlt
   have hoki := Stp.oks_mem hok _ hm
   obtain ⟨ih1,ih2⟩ := ih _ hm
   have e149 := f149 (u := u) l[i] hoki
   have hwi2 := Stp.wt_mem hm
   have hob := Stp.oks_body hoki
   have hge := Stp.wt_ge l[i]
   have hw1 := Stp.cnts_le_wts (l.take i)
   have hw2 := wts_take l i
   have hcb := Stp.cnts_le_wts l[i].body
   have hce := Stp.cnts_le_wts l[i].els
   generalize l[i] = y at *
   obtain ⟨k,g,nm,cp,pl,⟨k1,n1,s1,c1,l1⟩,⟨k2,n2,s2,c2,l2⟩,cb,body,ce,els⟩ := y
   simp only [Stp.Ok] at hoki
   simp only [Stp.body,Stp.els,Stp.kind] at *
   have eb := ih1 cb hoki.2.2.2.2.2.1 hob.1 (by omega)
   have ee := ih2 ce hoki.2.2.2.2.2.2.2.1 hob.2 (by omega)
   simp only [Stp.av,Stp.cells,Idx.four,List.cons_append,List.nil_append] at hg e149
   simp only [Stp.cnt,Stp.deep] at t1 t2
   have w1 : IntKind.wrap .i64 (1 + (Stp.cnts body : Int)) = 1 + (Stp.cnts body : Int) := wrap_i64 (by omega) (by omega)
   have w2 : IntKind.wrap .i64 ((Stp.deeps body : Int) + 1) = (Stp.deeps body : Int) + 1 := wrap_i64 (by omega) (by omega)
   have w3 : IntKind.wrap .i64 (1 + (Stp.cnts body : Int) + Stp.cnts els) = 1 + (Stp.cnts body : Int) + Stp.cnts els := wrap_i64 (by omega) (by omega)
   have w4 : IntKind.wrap .i64 ((Stp.deeps els : Int) + 1) = (Stp.deeps els : Int) + 1 := wrap_i64 (by omega) (by omega)
   have w5 : ∀ x : Nat,x <= 1 + Stp.cnts body + Stp.cnts els -> IntKind.wrap .i64 ((Stp.cnts (l.take i) : Int) + (x : Int)) = (Stp.cnts (l.take i) : Int) + (x : Int) := fun x hx => wrap_i64 (by omega) (by omega)
   have w6 := w5 1 (by omega)
   have w7 : IntKind.wrap .i64 ((Stp.cnts (l.take i) : Int) + (1 + (Stp.cnts body : Int))) = (Stp.cnts (l.take i) : Int) + (1 + (Stp.cnts body : Int)) := by have := w5 (1 + Stp.cnts body) (by omega); simpa using this
   have w8 : IntKind.wrap .i64 ((Stp.cnts (l.take i) : Int) + (1 + (Stp.cnts body : Int) + (Stp.cnts els : Int))) = (Stp.cnts (l.take i) : Int) + (1 + (Stp.cnts body : Int) + (Stp.cnts els : Int)) := by have := w5 (1 + Stp.cnts body + Stp.cnts els) (by omega); simpa using this
   simp at w6
   cases hb : hasBody k with
   | true =>
    cases he : hasElse k with
    | true =>
     rw [hb,he] at e149
     simp only [hb,he,if_true] at t1 t2
     simp [I,K,l148_0,h1,h2,q1,q2,q3,hlt,hg,e149,eb,ee,w1,w2,w3,w4,w8,hwi,stps_len]
     rw [t1,t2]
     refine ⟨by omega,?_⟩
     (repeat' split) <;> omega
    | false =>
     rw [hb,he] at e149
     simp only [hb,he,if_true,Bool.false_eq_true,if_false] at t1 t2
     simp [I,K,l148_0,h1,h2,q1,q2,q3,hlt,hg,e149,eb,ee,w1,w2,w7,hwi,stps_len]
     rw [t1,t2]
     refine ⟨by omega,?_⟩
     (repeat' split) <;> omega
   | false =>
    have he : hasElse k = false := by
     simp only [hasBody,hasElse,decide_eq_false_iff_not] at hb ⊢; omega
    rw [hb,he] at e149
    simp only [hb,he,Bool.false_eq_true,if_false] at t1 t2
    simp [I,K,l148_0,h1,h2,q1,q2,q3,hlt,hg,e149,eb,ee,w6,hwi,stps_len]
    rw [t1,t2]
    refine ⟨by omega,?_⟩
    (repeat' split) <;> omega
  ·right
   have : i = l.length := by omega
   subst this
   simp only [List.take_length] at q2 q3
   simp [K,l148_0,h1,h2,q1,q2,q3,stps_len]
 ·simp [h1,h2,h3,h4]; rfl
end Go.Abs.Tz
set_option maxRecDepth 100000
set_option maxHeartbeats 4000000
namespace Go.Abs.Tz
open Go.Abs
variable {u : Nat}
attribute [local simp] exec aops astep wantedA aop evO setO setU getE getE_setE lget lget_lset aBin aInt aUn AV.cells newVar padd rd wr asElem single splice aStr adraw ascan Runs gets RV.get tupled frz_int frz_bool
theorem bytes_get (s : List Nat) (i : Nat) (hi : i < s.length) (h : s[i] < 256) : ((⟨(s.map UInt8.ofNat).toArray⟩ : ByteArray).get! i).toNat = s[i] := by
 simp [ByteArray.get!,hi]; omega
theorem dec_small {s : List Nat} {i : Nat} (hi : i < s.length) (h : s[i] < 128) : Utf8.decode ⟨(s.map UInt8.ofNat).toArray⟩ i = (s[i],1) := by
 have h0 := bytes_get s i hi (by omega)
 simp only [Utf8.decode,Nat.add_zero,h0]
 simp [h]
theorem dec_big {s : List Nat} {i : Nat} (hi : i < s.length) (h1 : s[i] < 256) (h : 128 <= s[i]) : 128 <= (Utf8.decode ⟨(s.map UInt8.ofNat).toArray⟩ i).1 := by
 have h0 := bytes_get s i hi h1
 simp only [Utf8.decode,Nat.add_zero,h0]
 have : ¬ s[i] < 128 := by omega
 simp only [this,if_false]
 (repeat' split) <;> simp_all [Utf8.runeError] <;> omega
theorem f178 (s : List Nat) (hs : okStr s) (m : Mem) : cvl (C u) (.fn (.func 178) [] []) [.str s] m = some (.bool (lettersB s),m) := by
 refine call_runs (g := g178) (by rfl) (by rfl) (by rfl) ?_
 simp only [List.map_cons,List.map_nil,exp,g178,c178]
 let K : St -> Prop := fun st => st.mem = { blks := m.blks,touched := [] }
 refine Runs.seq' (M := fun st => K st /\ getE st.env 0 = .str s) (by simp [K]) fun s1 ⟨h1,h2⟩ => ?_
 refine Runs.seq (M := fun st => K st /\ lettersB s = true) ?_ fun s2 ⟨h1,h2⟩ => ?_
 ·let I : Nat -> St -> Prop := fun i st => K st /\ (∃ v,getE st.env 6 = .lptr 6 v 0 /\ lget st.loc 6 = some (v,.iter s i)) /\ ∀ j (hj : j < s.length),j < i -> 97 <= s[j] /\ s[j] <= 122
  refine Runs.seq' (M := I 0) (by simp [I,K,h1,h2]) fun s4 hI => ?_
  refine Runs.block (Runs.loop (I := I) s.length hI fun i st hi hst => ?_)
  obtain ⟨h1,⟨v,q1,q2⟩,q3⟩ := hst
  rcases Nat.lt_or_ge i s.length with hlt | hge
  ·have hb : s[i] < 256 := hs _ (List.getElem_mem hlt)
   by_cases a0 : s[i] < 128
   ·have hd := dec_small hlt a0
    by_cases a1 : 97 <= s[i] /\ s[i] <= 122
    ·left
     refine ⟨hlt,?_⟩
     have a2 : ¬ (s[i] : Int) < 97 := by omega
     have a3 : ¬ (122 : Int) < s[i] := by omega
     simp [I,K,l178_0,h1,q1,q2,hlt,hd,a2,a3]
     exact fun j hj hji => by
      rcases Nat.lt_or_ge j i with h | h
      ·exact q3 j hj h
      ·have : j = i := by omega
       subst this; exact a1
    ·right
     have hn : lettersB s = false := by
      simp only [lettersB,List.all_eq_false]
      exact ⟨s[i],List.getElem_mem hlt,by simp; omega⟩
     by_cases a2 : (s[i] : Int) < 97
     ·simp [l178_0,K,h1,q1,q2,hlt,hd,a2,hn] <;> exact h1
     ·have a3 : (122 : Int) < s[i] := by omega
      simp [l178_0,K,h1,q1,q2,hlt,hd,a2,a3,hn] <;> exact h1
   ·right
    have hd := dec_big hlt hb (by omega)
    have hn : lettersB s = false := by
     simp only [lettersB,List.all_eq_false]
     exact ⟨s[i],List.getElem_mem hlt,by simp; omega⟩
    have a2 : ¬ ((Utf8.decode ⟨(s.map UInt8.ofNat).toArray⟩ i).1 : Int) < 97 := by omega
    have a3 : (122 : Int) < (Utf8.decode ⟨(s.map UInt8.ofNat).toArray⟩ i).1 := by omega
    simp [l178_0,K,h1,q1,q2,hlt,a2,a3,hn] <;> exact h1
  ·right
   have : i = s.length := by omega
   subst this
   have hy : lettersB s = true := by
    simp only [lettersB,List.all_eq_true]
    intro b hb
    obtain ⟨j,hj,rfl⟩ := List.getElem_of_mem hb
    have := q3 j hj hj
    simp; omega
   simp [l178_0,K,h1,q1,q2,hy] <;> exact h1
 ·have h1' : s2.mem = { blks := m.blks,touched := [] } := h1
  simp [h2,h1']
theorem f65 (cn : Cap) (hcn : okCap cn) (ss : List (List Nat)) (t : List Nat) (hlen : ss.length < 1000000000000) (m : Mem) : cvl (C u) (.fn (.func 65) [] []) [strsAV cn ss,.str t] m = some (.bool (ss.contains t),m) := by
 have e := f85 (u := u) cn hcn ss t hlen
 refine call_runs (g := g65) (by rfl) (by rfl) (by rfl) ?_
 simp only [List.map_cons,List.map_nil,exp_strs hcn,exp,g65,c65]
 cases hf : ss.findIdx? (fun x => x == t) with
 | none =>
  have hc : ss.contains t = false := by
   rw [List.findIdx?_eq_none_iff] at hf
   cases h : ss.contains t with
   | false => rfl
   | true =>
    rw [List.contains_iff_mem] at h
    have := hf t h
    simp at this
  rw [hc]
  simp [e,placeOf,hf]
 | some i =>
  have hc : ss.contains t = true := by
   rw [List.findIdx?_eq_some_iff_getElem] at hf
   obtain ⟨h1,h2,_⟩ := hf
   rw [List.contains_iff_mem]
   have : ss[i] = t := by simpa using h2
   rw [<- this]; exact List.getElem_mem h1
  have : (0 : Int) <= (i : Int) := by omega
  rw [hc]
  simp [e,placeOf,hf,this]
theorem gl0 : (C u).gl 0 = .ref [strsAV .any gateW] := by rfl
theorem gl1 : (C u).gl 1 = .ref [strsAV .any keyW] := by rfl
theorem f113 (s : List Nat) (hs : okStr s) (m : Mem) : cvl (C u) (.fn (.func 113) [] []) [.str s] m = some (.bool (namedB s),m) := by
 have e1 := f178 (u := u) s hs
 have e2 := f65 (u := u) .any (.inr rfl) gateW s (by decide)
 have e3 := f65 (u := u) .any (.inr rfl) keyW s (by decide)
 refine call_runs (g := g113) (by rfl) (by rfl) (by rfl) ?_
 simp only [List.map_cons,List.map_nil,exp,g113,c113]
 unfold namedB
 generalize gateW.contains s = bg at *
 generalize keyW.contains s = bk at *
 by_cases a1 : 0 < s.length
 ·by_cases a2 : s.length <= 8
  ·have a1' : (0 : Int) < (s.length : Int) := by omega
   have a2' : (s.length : Int) <= 8 := by omega
   cases a3 : lettersB s with
   | false => simp [e1,e2,e3,gl0,gl1,a1,a2,a1',a2',a3]
   | true =>
    cases bg <;> simp [e1,e2,e3,gl0,gl1,a1,a2,a1',a2',a3]
  ·have a1' : (0 : Int) < (s.length : Int) := by omega
   have a2' : ¬ (s.length : Int) <= 8 := by omega
   simp [e1,e2,e3,gl0,gl1,a1,a2,a1',a2']
 ·have a1' : ¬ (0 : Int) < (s.length : Int) := by omega
  simp [e1,e2,e3,gl0,gl1,a1,a1']
theorem parts_first (may : List Nat -> Bool) (no : Int) (l : List Idx) : Idx.parts may no l = first (Idx.part may no) l := by
 induction l with
 | nil => rfl
 | cons a l ih => simp only [Idx.parts,first,ih]
theorem exp_avs {n : Nat} {k : Bool} {c : Cap} (hc : okCap c) {l : List Idx} (h : Idx.Oks l) : exp n k (.list c (Idx.avs l)) = .list c (Idx.avs l) := by
 have : exps n k (Idx.avs l) = Idx.avs l := by
  rw [exps_eq,Idx.avs_eq,List.map_map]
  exact List.map_congr_left fun x hx => Idx.exp_av n k x (Idx.oks_mem h x hx)
 simp only [exp,exp_cap hc,this]
theorem strs_mem {l : List Idx} (h : Idx.Strs l) : ∀ x ∈ l,x.Str := by
 induction l with
 | nil => intro x hx; cases hx
 | cons a l ih =>
  intro x hx
  rcases List.mem_cons.1 hx with rfl | hx
  ·exact h.1
  ·exact ih h.2 x hx
def Fix (n : Nat) (fv : AV) : Prop := ∀ k b,n <= k -> exp k b fv = fv
def Ans (u : Nat) (B : List Blk) (fv : AV) (args : List AV) (r : AV) : Prop := ∀ ext T,cvl (C u) fv args { blks := B ++ ext,touched := T } = some (r,{ blks := B ++ ext,touched := T })
theorem f177 {B : List Blk} {fv : AV} {F : Idx -> Int} (hf : Fix B.length fv) (c : Cap) (hc : okCap c) (l : List Idx) (hl : Idx.Oks l) (hlen : l.length < 1000000000000)
  (h : ∀ x ∈ l,Ans u B fv [x.av] (.int .i64 (F x))) : Ans u B (.fn (.func 177) [] []) [.list c (Idx.avs l),fv] (.int .i64 (first F l)) := by
 intro ext T
 refine call_runs (g := g177) (by rfl) (by rfl) (by rfl) ?_
 simp only [List.map_cons,List.map_nil,exp_avs hc hl,hf _ false (show B.length <= (B ++ ext).length by simp),g177,c177]
 let K : St -> Prop := fun st => getE st.env 1 = fv /\ st.mem = { blks := B ++ ext,touched := [] }
 refine Runs.seq' (M := fun st => K st /\ getE st.env 0 = .list c (Idx.avs l)) (by simp [K]) fun s1 ⟨⟨h1,h2⟩,h3⟩ => ?_
 refine Runs.seq (M := fun st => K st /\ first F l = 0) ?_ fun s2 ⟨⟨h1,h2⟩,h3⟩ => ?_
 ·let I : Nat -> St -> Prop := fun i st => K st /\ getE st.env 8 = .list c (Idx.avs l) /\ getE st.env 9 = .int .i64 l.length /\ getE st.env 10 = .int .i64 i /\ ∀ j (hj : j < l.length),j < i -> F l[j] = 0
  refine Runs.seq' (M := I 0) (by simp [I,K,h1,h2,h3,avs_len]) fun s4 hI => ?_
  refine Runs.block (Runs.loop (I := I) l.length hI fun i st hi hst => ?_)
  obtain ⟨⟨h1,h2⟩,q1,q2,q3,q4⟩ := hst
  rcases Nat.lt_or_ge i l.length with hlt | hge
  ·have hw : IntKind.wrap .i64 ((i : Int) + 1) = (i : Int) + 1 := wrap_i64 (by omega) (by omega)
   have hg := avs_get l i hlt
   have hx := h _ (List.getElem_mem hlt) ext []
   by_cases hz : F l[i] = 0
   ·left
    refine ⟨hlt,?_⟩
    rw [hz] at hx
    have q5 := before_succ (P := fun j => ∀ hj : j < l.length,F l[j] = 0) (n := l.length) (fun j a b c => q4 j c b) (fun _ => hz)
    generalize l[i] = y at hg hx
    obtain ⟨k',n',s',c2,l'⟩ := y
    simp only [Idx.av] at hg hx
    simp [I,K,l177_0,h1,h2,q1,q2,q3,hlt,hg,hx,hw,avs_len]
    exact fun j hj hji => q5 j hj hji hj
   ·right
    have hfe := first_at hlt q4 hz
    rw [hfe]
    have e1 := bne_true hz
    generalize l[i] = y at hg hx hz e1
    obtain ⟨k',n',s',c2,l'⟩ := y
    simp only [Idx.av] at hg hx
    simp [K,l177_0,h1,h2,q1,q2,q3,hlt,hg,hx,e1,avs_len]
  ·right
   have : i = l.length := by omega
   subst this
   have hz := first_all (f := F) fun j hj => q4 j hj hj
   simp [K,l177_0,h1,h2,q1,q2,q3,hz]
 ·simp [h1,h2,h3]
def ixM (B : List Blk) (mayv : AV) (no : Int) : List Blk := B ++ [.cells [mayv],.cells [.int .i64 no],.cells [.fn (.func 175) [] [.gptr B.length 0,.gptr (B.length + 1) 0,.gptr (B.length + 2) 0]]]
theorem ixM_len (B : List Blk) (mayv : AV) (no : Int) : (ixM B mayv no).length = B.length + 3 := by simp [ixM]
theorem f175 (B : List Blk) (mayv : AV) (no : Int) (may : List Nat -> Bool) (hmay : ∀ s,okStr s -> Ans u B mayv [.str s] (.bool (may s))) (x : Idx) : x.Ok -> x.Str -> x.cnt < 1000000000000 →
  Ans u (ixM B mayv no) (.fn (.func 175) [] [.gptr B.length 0,.gptr (B.length + 1) 0,.gptr (B.length + 2) 0]) [x.av] (.int .i64 (x.part may no)) := by
 refine Idx.ind' (Q := fun x => x.Ok -> x.Str -> x.cnt < 1000000000000 -> Ans u (ixM B mayv no) (.fn (.func 175) [] [.gptr B.length 0,.gptr (B.length + 1) 0,.gptr (B.length + 2) 0]) [x.av] (.int .i64 (x.part may no))) (fun k n s c l ih hok hstr hcnt => ?_) x
 intro ext T
 simp only [Idx.Str] at hstr
 simp only [Idx.cnt] at hcnt
 have hll := Idx.cnts_ge l
 have hlen : (ixM B mayv no ++ ext).length = B.length + 3 + ext.length := by simp [ixM_len]
 have a0 : B.length < B.length + 3 + ext.length := by omega
 have a1 : B.length + 1 < B.length + 3 + ext.length := by omega
 have a2 : B.length + 2 < B.length + 3 + ext.length := by omega
 have d0 : (ixM B mayv no ++ ext)[B.length]? = some (.cells [mayv]) := by simp [ixM]
 have d1 : (ixM B mayv no ++ ext)[B.length + 1]? = some (.cells [.int .i64 no]) := by simp [ixM]
 have d2 : (ixM B mayv no ++ ext)[B.length + 2]? = some (.cells [.fn (.func 175) [] [.gptr B.length 0,.gptr (B.length + 1) 0,.gptr (B.length + 2) 0]]) := by simp [ixM]
 have hsh := fun m => f176 (u := u) k n s c l m hok
 have hm := hmay s hstr.1 ([.cells [mayv],.cells [.int .i64 no],.cells [.fn (.func 175) [] [.gptr B.length 0,.gptr (B.length + 1) 0,.gptr (B.length + 2) 0]]] ++ ext) []
 have hm' : cvl (C u) mayv [.str s] { blks := ixM B mayv no ++ ext,touched := [] } = some (.bool (may s),{ blks := ixM B mayv no ++ ext,touched := [] }) := by simpa [ixM] using hm
 have hfix : Fix (ixM B mayv no).length (.fn (.func 175) [] [.gptr B.length 0,.gptr (B.length + 1) 0,.gptr (B.length + 2) 0]) := by
  intro kk b hk
  rw [ixM_len] at hk
  simp [exp,exps,Fn.below]; omega
 have hfirst := f177 (u := u) hfix c hok.1 l hok.2 (by omega) (fun y hy => ih y hy (Idx.oks_mem hok.2 y hy) (strs_mem hstr.2 y hy) (by have := Idx.cnt_mem hy; omega)) ext []
 rw [<- parts_first] at hfirst
 refine clo_runs (g := g175) (by rfl) (by rfl) (by rfl) ?_
 have henv : ([] ++ [(Idx.mk k n s c l).av] ++ [AV.gptr B.length 0,.gptr (B.length + 1) 0,.gptr (B.length + 2) 0]).map (exp (ixM B mayv no ++ ext).length false) = [(Idx.mk k n s c l).av,AV.gptr B.length 0,.gptr (B.length + 1) 0,.gptr (B.length + 2) 0] := by
  simp only [List.nil_append,List.cons_append,List.map_cons,List.map_nil,Idx.exp_av _ _ _ hok,exp,hlen,a0,a1,a2,if_true]
 rw [henv]
 simp only [g175,c175,Idx.part]
 simp only [Idx.av] at hsh ⊢
 generalize ixM B mayv no ++ ext = BB at *
 by_cases hs0 : shapeE k n l.length = 0
 ·rw [hs0] at hsh
  by_cases hk2 : k = 2
  ·subst hk2
   cases hms : may s with
   | true =>
    rw [hms] at hm'
    simp [hsh,d0,d1,d2,hm',hfirst,hs0]
   | false =>
    rw [hms] at hm'
    simp [hsh,d0,d1,d2,hm',hfirst,hs0]
  ·simp [hsh,d0,d1,d2,hm',hfirst,hs0,hk2,ne_true hk2]
 ·simp [hsh,d0,d1,d2,hm',hfirst,hs0,bne_true hs0]
theorem f112 {B : List Blk} {F : Fn} {fa fc : List AV} {may : List Nat -> Bool} (no : Int) (hfix : Fix B.length (.fn F fa fc)) (hn1 : fa.map nol = fa) (hn2 : fc.map nol = fc) (hmay : ∀ s,okStr s -> Ans u B (.fn F fa fc) [.str s] (.bool (may s))) (x : Idx) (hok : x.Ok) (hstr : x.Str) (hcnt : x.cnt < 1000000000000) :
  Ans u B (.fn (.func 112) [] []) [x.av,.fn F fa fc,.int .i64 no] (.int .i64 (x.err may no)) := by
 intro ext T
 have hsz := fun m => f117 (u := u) x hok hcnt m
 have hmay' : ∀ s,okStr s -> Ans u (B ++ ext) (.fn F fa fc) [.str s] (.bool (may s)) := fun s hs e t => by
  have := hmay s hs (ext ++ e) t
  rwa [<- List.append_assoc] at this
 have hck := f175 (u := u) (B ++ ext) (.fn F fa fc) no may hmay' x hok hstr hcnt [] []
 refine call_runs (g := g112) (by rfl) (by rfl) (by rfl) ?_
 simp only [List.map_cons,List.map_nil,Idx.exp_av _ _ _ hok,hfix _ false (show B.length <= (B ++ ext).length by simp)]
 simp only [exp,g112,c112]
 generalize B ++ ext = BB at *
 obtain ⟨k,n,s,c,l⟩ := x
 simp only [Idx.av] at hsz hck ⊢
 by_cases h9 : 9 < (Idx.mk k n s c l).cnt
 ·have h9' : (9 : Int) < ((Idx.mk k n s c l).cnt : Int) := by omega
  simp [hsz,Mem.push,Mem.nol,nol,nols_eq,hn1,hn2,Idx.err,h9,h9']
 ·have h9' : ¬ (9 : Int) < ((Idx.mk k n s c l).cnt : Int) := by omega
  simp only [ixM,List.append_nil] at hck
  simp [hsz,Mem.push,Mem.nol,nol,nols_eq,nols,hn1,hn2,Idx.err,h9,h9',Mem.put,los,lo,Fn.below,hck]
end Go.Abs.Tz
