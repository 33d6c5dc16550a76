/- A text of this proof. -/
import Derived.Test.YtiigojkfojnedaaGreatDoorPHw
set_option linter.unusedVariables false
set_option linter.unusedSimpArgs false
set_option maxRecDepth 100000
set_option maxHeartbeats 8000000
namespace Go.Abs.Tz
open Go.Abs
variable {u : Nat}
attribute [local simp] exec aops astep wantedA aop evO setO setU getE getE_setE lget lget_lset aBin aInt aUn AV.cells newVar padd rd wr asElem single splice adraw ascan Runs gets RV.get tupled frz_int frz_bool frz_str
theorem prcsT_append (l : List Prc) (x : Prc) : prcsT (l ++ [x]) = prcsT l ++ x.text := by
 induction l with
 | nil => simp [prcsT]
 | cons a l ih => simp only [List.cons_append,prcsT,ih,List.append_assoc]
theorem prcsT_len (l : List Prc) (h : ∀ x ∈ l,PrcR x) : (prcsT l).length <= l.length * 200000 := by
 induction l with
 | nil => simp [prcsT]
 | cons a l ih =>
  have h1 := Prc.text_len (h a (by simp))
  have h2 := ih fun x hx => h x (by simp [hx])
  simp only [prcsT,List.length_append,List.length_cons]
  omega
theorem parsT_len (l : List Par) (h : ∀ p ∈ l,p.name.length <= 8 /\ 1 <= p.size /\ p.size <= 12) (h4 : l.length <= 4) : (commas (l.map Par.text)).length <= 56 := by
 have h3 := commas_len (l.map Par.text) 12 (fun t ht => by
  obtain ⟨p,hp,rfl⟩ := List.mem_map.1 ht
  have := (h p hp).1
  have := dec2_len p.size.toNat
  simp [Par.text]; omega)
 rw [List.length_map] at h3
 omega
theorem f23 (cps : Cap) (hcps : okCap cps) (ps : List Prc) (hps : ∀ x ∈ ps,x.Ok) (hpw : prcsW ps < 1000000000) (hl12 : ps.length <= 12) (hR : ∀ x ∈ ps,PrcR x) (m : Mem) :
  cvl (C u) (.fn (.func 23) [] []) [prgAV cps ps] m = some (.str (prcsT ps),m) := by
 refine call_runs (g := g23) (by rfl) (by rfl) (by rfl) ?_
 simp only [List.map_cons,List.map_nil,exp_prg hcps hps]
 simp only [g23,c23,prgAV]
 let K : St -> Prop := fun st => getE st.env 1 = .lptr 1 0 0 /\ lget st.loc 1 = some (0,.cells [.list cps (ps.map Prc.av)]) /\ st.mem = { blks := m.blks,touched := [] }
 refine Runs.seq' (M := K) (by simp [K,newVer]) fun s1 ⟨h1,h2,h3⟩ => ?_
 refine Runs.seq' (M := fun st => K st /\ getE st.env 3 = .str []) (by simp [K,h1,h2,h3]) fun s1 ⟨⟨h1,h2,h3⟩,h4⟩ => ?_
 refine Runs.seq (M := fun st => K st /\ getE st.env 3 = .str (prcsT ps)) ?_ fun s2 ⟨⟨h1,h2,h3⟩,h4⟩ => by simp [h3,h4]
 let J : Nat -> St -> Prop := fun i st => K st /\ getE st.env 4 = .int .i64 i
 let I : Nat -> St -> Prop := fun i st => J i st /\ getE st.env 3 = .str (prcsT (ps.take i))
 refine Runs.seq' (M := fun st => J 0 st /\ getE st.env 3 = .str []) (by simp [J,K,h1,h2,h3,h4]) fun s4 ⟨a1,a2⟩ => ?_
 refine Runs.block (Runs.upto (I := I) ps.length ⟨a1,a2⟩ (fun i st hlt hst => ?_) (fun st hst => ?_))
 ·obtain ⟨⟨⟨h1,h2,h3⟩,q1⟩,q2⟩ := hst
  have hwi : IntKind.wrap .i64 ((i : Int) + 1) = (i : Int) + 1 := wrap_i64 (by omega) (by omega)
  have hm : ps[i] ∈ ps := List.getElem_mem hlt
  have hok := hps _ hm
  have hr := hR _ hm
  have hwm := Prc.wt_mem hm
  simp only [Prc.wt] at hwm
  have hacc : (prcsT (ps.take i)).length <= 2400000 := by
   have := prcsT_len (ps.take i) fun x hx => hR x (List.mem_of_mem_take hx)
   rw [List.length_take] at this
   omega
  have hsn : prcsT (ps.take (i + 1)) = prcsT (ps.take i) ++ ps[i].text := by rw [List.take_succ_eq_append_getElem hlt,prcsT_append]
  have e102 := fun m => f102 (u := u) ps[i].body ps[i].cb hok.2.2.2.1 hok.2.2.2.2.1 hr.body [32,32] (by have := hr.deeps; simp; omega) (by have := hr.cnts; omega) (by omega) m
  have hll := lines_len ps[i].body [32,32] hr.body (by have := hr.deeps; simp; omega) (by have := hr.cnts; omega)
  have hnm := hr.name
  have hp4 := hr.pars
  have hpar := hr.par
  have hplen := parsT_len _ hpar hp4
  simp only [Prc.text,bl2] at hsn
  generalize hta : prcsT (ps.take i) = acc at *
  generalize linesT ps[i].body [32,32] = tb at *
  let P : List AV := [.str ps[i].name,.list ps[i].cp (ps[i].pars.map Par.av),.list ps[i].cb (Stp.avs ps[i].body)]
  let J2 : St -> Prop := fun st => J i st /\ ∃ v,getE st.env 5 = .lptr 5 v 0 /\ lget st.loc 5 = some (v,.cells P)
  let A0 : List Nat := acc ++ [112,114,111,99,32] ++ ps[i].name ++ [40]
  have hA0 : A0.length <= 2400100 := by simp [A0]; omega
  refine Runs.seq' (M := fun st => J i st /\ getE st.env 3 = .str acc) (by simp [J,K,h1,h2,h3,q1,q2,hlt]) fun s5 ⟨⟨⟨h1,h2,h3⟩,q1⟩,q2⟩ => ?_
  refine Runs.seq (M := fun st => J i st /\ getE st.env 3 = .str (prcsT (ps.take (i + 1)))) ?_ fun s6 ⟨⟨⟨h1,h2,h3⟩,q1⟩,q2⟩ => by
   simp [I,J,K,h1,h2,h3,q1,q2,hwi]
  refine Runs.block ?_
  refine Runs.seq' (M := fun st => J2 st /\ getE st.env 3 = .str acc) (by simp [J2,J,K,P,h1,h2,h3,q1,q2,hlt,Prc.av]) fun s5 ⟨⟨⟨⟨h1,h2,h3⟩,q1⟩,v,q3,q4⟩,q2⟩ => ?_
  simp only [P] at q4
  refine Runs.seq' (M := fun st => J2 st /\ getE st.env 3 = .str A0) (by simp (disch := (first | omega | (simp only [List.length_append,List.length_cons,List.length_nil]; omega))) [J2,J,K,P,A0,h1,h2,h3,q1,q2,q3,q4,aStr_add]) fun s5 ⟨⟨⟨⟨h1,h2,h3⟩,q1⟩,v,q3,q4⟩,q2⟩ => ?_
  simp only [P] at q4
  generalize hA : A0 = A at *
  refine Runs.seq (M := fun st => J2 st /\ getE st.env 3 = .str (A ++ commas (ps[i].pars.map Par.text))) ?_ fun s5 ⟨⟨⟨⟨h1,h2,h3⟩,q1⟩,v,q3,q4⟩,q2⟩ => ?_
  ·let I2 : Nat -> St -> Prop := fun k st => J2 st /\ getE st.env 6 = .int .i64 k /\ getE st.env 3 = .str (A ++ commas ((ps[i].pars.take k).map Par.text))
   refine Runs.seq' (M := fun st => J2 st /\ getE st.env 6 = .int .i64 0 /\ getE st.env 3 = .str A) (by simp [J2,J,K,P,h1,h2,h3,q1,q2,q3,q4]) fun s6 ⟨a1,a2,a3⟩ => ?_
   refine Runs.block (Runs.loop (I := I2) ps[i].pars.length ⟨a1,a2,by simpa [commas] using a3⟩ fun k st hk hst => ?_)
   obtain ⟨⟨⟨⟨h1,h2,h3⟩,q1⟩,v,q3,q4⟩,q5,q2⟩ := hst
   simp only [P] at q4
   rcases Nat.lt_or_ge k ps[i].pars.length with hlt2 | hge
   ·left
    refine ⟨hlt2,?_⟩
    have hwk : IntKind.wrap .i64 ((k : Int) + 1) = (k : Int) + 1 := wrap_i64 (by omega) (by omega)
    have hpm : ps[i].pars[k] ∈ ps[i].pars := List.getElem_mem hlt2
    obtain ⟨n1,n2,n3⟩ := hpar _ hpm
    have e101 := fun m => f101 (u := u) ps[i].pars[k].size (by omega) (by omega) m
    have hd := dec2_len ps[i].pars[k].size.toNat
    have hcm : (commas ((ps[i].pars.take k).map Par.text)).length <= 56 := parsT_len _ (fun p hp => hpar p (List.mem_of_mem_take hp)) (by rw [List.length_take]; omega)
    have hs : commas ((ps[i].pars.take (k + 1)).map Par.text) = (if k = 0 then [] else commas ((ps[i].pars.take k).map Par.text) ++ [44,32]) ++ ps[i].pars[k].text := by
     simp only [List.take_succ_eq_append_getElem hlt2,List.map_append,List.map_cons,List.map_nil]
     split
     ·rename_i h0; subst h0; rfl
     ·rename_i h0
      rw [commas_snoc]
      intro he
      have := congrArg List.length he
      rw [List.length_map,List.length_take,List.length_nil] at this
      omega
    simp only [Par.text] at hs
    generalize dec2 ps[i].pars[k].size.toNat = td at *
    by_cases h0 : k = 0
    ·subst h0
     have hc0 : commas ((ps[i].pars.take 0).map Par.text) = [] := rfl
     rw [hc0,List.append_nil] at q2
     simp at hs
     have hw1 : IntKind.wrap .i64 1 = 1 := by decide
     simp (disch := (first | omega | (simp only [List.length_append,List.length_cons,List.length_nil]; omega))) [I2,J2,J,K,P,l23_0,h1,h2,h3,q1,q2,q3,q4,q5,hlt2,Par.av,e101,aStr_add,chkLoad,isSt,eqRd,AV.beqs_refl,hs,hw1]
    ·have hk0 : (0 : Int) < (k : Int) := by omega
     have hk0' : 0 < k := by omega
     rw [if_neg h0] at hs
     generalize commas ((ps[i].pars.take k).map Par.text) = tk at *
     rw [List.map_take] at hs
     simp (disch := (first | omega | (simp only [List.length_append,List.length_cons,List.length_nil]; omega))) [I2,J2,J,K,P,l23_0,h1,h2,h3,q1,q2,q3,q4,q5,hlt2,Par.av,e101,aStr_add,chkLoad,isSt,eqRd,AV.beqs_refl,hs,hk0,hk0',hwk]
   ·right
    have : k = ps[i].pars.length := by omega
    subst this
    rw [List.take_length] at q2
    simp [J2,J,K,P,l23_0,h1,h2,h3,q1,q2,q3,q4,q5]
  ·simp only [P] at q4
   generalize commas (ps[i].pars.map Par.text) = tp at *
   have hfin : prcsT (ps.take (i + 1)) = A ++ tp ++ [41,32,123,10] ++ tb ++ [125,10] := by rw [hsn,<- hA]; simp [A0]
   rw [hfin]
   simp (disch := (first | omega | (simp only [List.length_append,List.length_cons,List.length_nil]; omega))) [J,K,h1,h2,h3,q1,q2,q3,q4,e102,aStr_add]
 ·obtain ⟨⟨⟨h1,h2,h3⟩,q1⟩,q2⟩ := hst
  rw [List.take_length] at q2
  simp [K,l23_1,h1,h2,h3,q1,q2]
theorem f169n (x : Idx) : x.Ok -> x.cnt < 1000000000000 -> ∀ m,
  cvl (C u) (.fn (.func 169) [] []) [x.av,.list .nil [],.bool false] m = some (.int .i64 (x.part namedB 4),m) := by
 refine Idx.ind' (Q := fun x => x.Ok -> x.cnt < 1000000000000 -> ∀ m,cvl (C u) (.fn (.func 169) [] []) [x.av,.list .nil [],.bool false] m = some (.int .i64 (x.part namedB 4),m)) (fun k n s cc l ih hok hcnt m => ?_) x
 have hsh := fun m => f181 (u := u) k n s cc l m hok
 have e164 := fun m => f164 (u := u) s m
 simp only [Idx.cnt] at hcnt
 have hll := Idx.cnts_ge l
 refine call_runs (g := g169) (by rfl) (by rfl) (by rfl) ?_
 simp only [List.map_cons,List.map_nil,Idx.exp_av _ _ _ hok]
 simp only [exp,exps,Cap.exp,g169,c169,Idx.part]
 simp only [Idx.av] at hsh ⊢
 let K : St -> Prop := fun st => getE st.env 1 = .list .nil [] /\ getE st.env 2 = .bool false /\ getE st.env 3 = .lptr 3 0 0 /\ lget st.loc 3 = some (0,.cells [.int .i64 k,.int .i64 n,.str s,.list cc (Idx.avs l)]) /\ st.mem = { blks := m.blks,touched := [] }
 refine Runs.seq' (M := K) (by simp [K,newVer]) fun s1 ⟨h1,h2,h3,h4,h5⟩ => ?_
 by_cases hs0 : shapeE k n l.length = 0
 case neg =>
  refine Runs.seq (M := fun _ => False) ?_ fun _ h => h.elim
  simp [h1,h2,h3,h4,h5,hsh,bne_true hs0,hs0]
 rw [hs0] at hsh
 refine Runs.seq' (M := K) (by simp [K,h1,h2,h3,h4,h5,hsh]) fun s1 ⟨h1,h2,h3,h4,h5⟩ => ?_
 refine Runs.seq' (M := K) (by
  by_cases hk : k = 2
  ·subst hk; simp [K,h1,h2,h3,h4,h5]
  ·simp [K,h1,h2,h3,h4,h5,ne_true hk]) fun s1 ⟨h1,h2,h3,h4,h5⟩ => ?_
 by_cases hk2 : k = 2 /\ namedB s = false
 ·obtain ⟨rfl,hns⟩ := hk2
  rw [hns] at e164
  refine Runs.seq (M := fun _ => False) ?_ fun _ h => h.elim
  simp [h1,h2,h3,h4,h5,e164,hs0,hns]
 have hgoal : (if shapeE k n l.length ≠ 0 then shapeE k n l.length else if k = 2 /\ namedB s = false then 4 else Idx.parts namedB 4 l) = first (Idx.part namedB 4) l := by
  rw [if_neg (by simpa using hs0),if_neg hk2,parts_first]
 rw [hgoal]
 refine Runs.seq' (M := K) (by
  by_cases hk : k = 2
  ·subst hk
   have hns : namedB s = true := by simpa using hk2
   rw [hns] at e164
   simp [K,h1,h2,h3,h4,h5,e164]
  ·simp [K,h1,h2,h3,h4,h5,ne_true hk]) fun s1 ⟨h1,h2,h3,h4,h5⟩ => ?_
 refine Runs.seq (M := fun st => K st /\ first (Idx.part namedB 4) l = 0) ?_ fun s2 ⟨⟨h1,h2,h3,h4,h5⟩,h6⟩ => by simp [h5,h6]
 let I : Nat -> St -> Prop := fun i st => K st /\ getE st.env 8 = .int .i64 i /\ ∀ j (hj : j < l.length),j < i -> (l[j]).part namedB 4 = 0
 refine Runs.seq' (M := I 0) (by simp [I,K,h1,h2,h3,h4,h5]) fun s4 hI => ?_
 refine Runs.block (Runs.loop (I := I) l.length hI fun i st hi hst => ?_)
 obtain ⟨⟨h1,h2,h3,h4,h5⟩,q1,q2⟩ := hst
 rcases Nat.lt_or_ge i l.length with hlt | hge
 ·have hw : IntKind.wrap .i64 ((i : Int) + 1) = (i : Int) + 1 := wrap_i64 (by omega) (by omega)
  have hg := avs_get l i hlt
  have hm : l[i] ∈ l := List.getElem_mem hlt
  have hx := ih _ hm (Idx.oks_mem hok.2 _ hm) (by have := Idx.cnt_mem hm; omega)
  by_cases hz : (l[i]).part namedB 4 = 0
  ·left
   refine ⟨hlt,?_⟩
   have q5 := before_succ (P := fun j => ∀ hj : j < l.length,(l[j]).part namedB 4 = 0) (n := l.length) (fun j a b c => q2 j c b) (fun _ => hz)
   rw [hz] at hx
   generalize l[i] = y at hg hx
   obtain ⟨k',n',s',c2,l'⟩ := y
   simp only [Idx.av] at hg hx
   simp [I,K,l169_0,h1,h2,h3,h4,h5,q1,hlt,hg,hx,hw,avs_len]
   exact fun j hj hji => q5 j hj hji hj
  ·right
   have hfe := first_at hlt q2 hz
   rw [hfe]
   have e1 := bne_true hz
   generalize (l[i]).part namedB 4 = pe at *
   generalize l[i] = y at hg hx
   obtain ⟨k',n',s',c2,l'⟩ := y
   simp only [Idx.av] at hg hx
   simp [K,l169_0,h1,h2,h3,h4,h5,q1,hlt,hg,hx,e1,avs_len]
 ·right
  have : i = l.length := by omega
  subst this
  have hz := first_all (f := Idx.part namedB 4) fun j hj => q2 j hj hj
  simp [K,l169_0,h1,h2,h3,h4,h5,q1,hz,avs_len]
theorem f103n (x : Idx) (hok : x.Ok) (hcnt : x.cnt < 1000000000000) (m : Mem) :
  cvl (C u) (.fn (.func 103) [] []) [x.av,.list .nil [],.bool false] m = some (.int .i64 (x.err namedB 4),m) := by
 have e1 := fun m => f115 (u := u) x hok hcnt m
 have e2 := fun m => f169n (u := u) x hok hcnt m
 refine call_runs (g := g103) (by rfl) (by rfl) (by rfl) ?_
 simp only [List.map_cons,List.map_nil,Idx.exp_av _ _ _ hok]
 simp only [exp,exps,Cap.exp,g103,c103,Idx.err]
 generalize x.part namedB 4 = pe at *
 generalize x.cnt = cn at *
 obtain ⟨k,n,s,cc,l⟩ := x
 simp only [Idx.av] at e1 e2 ⊢
 generalize hmn : ((min cn 10 : Nat) : Int) = mn at *
 by_cases h9 : 9 < cn
 ·have h9' : (9 : Int) < mn := by omega
  simp [e1,h9,h9']
 ·have h9' : ¬ (9 : Int) < mn := by omega
  simp [e1,e2,h9,h9']
def showT (x : Idx) : List Nat := if x.err namedB 4 = 0 then x.text else []
theorem err_RN {x : Idx} (h : x.err namedB 4 = 0) : ixR x := by
 unfold Idx.err at h
 split at h
 ·cases h
 ·exact ⟨Idx.part_shp (no := 4) (by decide) (fun s hs => namedB_len hs) x h,by omega⟩
theorem f24 (x : Idx) (hok : x.Ok) (hcnt : x.cnt < 1000000000000) (m : Mem) : cvl (C u) (.fn (.func 24) [] []) [x.av] m = some (.tup [.str (showT x),.int .i64 (x.err namedB 4)],m) := by
 have e1 := fun m => f103n (u := u) x hok hcnt m
 refine call_runs (g := g24) (by rfl) (by rfl) (by rfl) ?_
 simp only [List.map_cons,List.map_nil,Idx.exp_av _ _ _ hok,g24,c24,showT]
 have hz : ∀ bs n (a : List Nat) (i : Int),frz bs n 8 (.tup [.str a,.int .i64 i]) = .tup [.str a,.int .i64 i] := fun _ _ _ _ => rfl
 by_cases he : x.err namedB 4 = 0
 ·have e2 := fun m => f104n (u := u) x hok (err_RN he) m
  rw [he] at e1 ⊢
  generalize x.text = t at *
  rw [Idx.av_four] at e1 ⊢
  have h4 := Idx.four_len x
  have htk : x.four.take 4 = x.four := List.take_of_length_le (by omega)
  simp [h4,htk,e1,e2,hz,newVer]
 ·rw [if_neg he]
  generalize x.err namedB 4 = xe at *
  rw [Idx.av_four] at e1 ⊢
  have h4 := Idx.four_len x
  have htk : x.four.take 4 = x.four := List.take_of_length_le (by omega)
  simp [h4,htk,e1,hz,bne_true he,newVer]
end Go.Abs.Tz
set_option maxRecDepth 100000
set_option maxHeartbeats 8000000
namespace Go.Abs.Tz
open Go.Abs
variable {u : Nat}
attribute [local simp] exec aops astep wantedA aop evO setO setU getE getE_setE lget lget_lset aBin aInt aUn AV.cells newVar padd rd wr asElem single splice adraw ascan Runs gets RV.get tupled frz_int frz_bool frz_str
theorem f223 (c : Cap) (ks : List Int) (v : Int) (hl : ks.length < 1000000000000) (m : Mem) : cvl (C u) (.fn (.func 223) [] []) [.list c (ks.map (AV.int .i64)),.int .i64 v] m = some (.int .i64 (match ks.findIdx? (· == v) with
  | some i => (i : Int)
  | none => -1),m) := by
 refine call_runs (g := g223) (by rfl) (by rfl) (by rfl) ?_
 have he : exps m.blks.length false (ks.map (AV.int .i64)) = ks.map (AV.int .i64) := by rw [exps_eq,List.map_map]; exact List.map_congr_left fun _ _ => rfl
 simp only [List.map_cons,List.map_nil,exp,he,g223,c223]
 generalize c.exp m.blks.length false = c'
 let K : St -> Prop := fun st => getE st.env 0 = .list c' (ks.map (AV.int .i64)) /\ getE st.env 1 = .int .i64 v /\ st.mem = { blks := m.blks,touched := [] }
 refine Runs.seq' (M := K) (by simp [K]) fun s1 ⟨h1,h2,h3⟩ => ?_
 refine Runs.seq (M := fun st => K st /\ ks.findIdx? (· == v) = none) ?_ fun s2 ⟨⟨h1,h2,h3⟩,h4⟩ => by simp [h3,h4]
 let I : Nat -> St -> Prop := fun i st => K st /\ getE st.env 7 = .int .i64 ks.length /\ getE st.env 8 = .int .i64 i /\ ∀ j (hj : j < ks.length),j < i -> ks[j] ≠ v
 refine Runs.seq' (M := I 0) (by simp [I,K,h1,h2,h3]) fun s4 hI => ?_
 refine Runs.block (Runs.loop (I := I) ks.length hI fun i st hi hst => ?_)
 obtain ⟨⟨h1,h2,h3⟩,q1,q2,q4⟩ := hst
 rcases Nat.lt_or_ge i ks.length with hlt | hge
 ·have hw : IntKind.wrap .i64 ((i : Int) + 1) = (i : Int) + 1 := wrap_i64 (by omega) (by omega)
  by_cases hz : ks[i] = v
  ·right
   have hf : ks.findIdx? (· == v) = some i := by
    rw [List.findIdx?_eq_some_iff_getElem]
    exact ⟨hlt,by simpa using hz,fun j hj => by simpa using q4 j (by omega) hj⟩
   rw [hf]
   have hz' : v = ks[i] := hz.symm
   simp [K,l223_0,h1,h2,h3,q1,q2,hlt,hz]
  ·left
   refine ⟨hlt,?_⟩
   have hz' : (v == ks[i]) = false := by simpa using fun h => hz h.symm
   have q5 := before_succ (P := fun j => ∀ hj : j < ks.length,ks[j] ≠ v) (n := ks.length) (fun j a b c => q4 j c b) (fun _ => hz)
   simp [I,K,l223_0,h1,h2,h3,q1,q2,hlt,hz',hw]
   exact fun j hj hji => q5 j hj hji hj
 ·right
  have : i = ks.length := by omega
  subst this
  have hf : ks.findIdx? (· == v) = none := by
   rw [List.findIdx?_eq_none_iff]
   intro x hx
   obtain ⟨j,hj,rfl⟩ := List.getElem_of_mem hx
   simpa using q4 j hj hj
  simp [K,l223_0,h1,h2,h3,q1,q2,hf]
theorem f180 (c : Cap) (ks : List Int) (v : Int) (hl : ks.length < 1000000000000) (m : Mem) : cvl (C u) (.fn (.func 180) [] []) [.list c (ks.map (AV.int .i64)),.int .i64 v] m = some (.bool (ks.contains v),m) := by
 have e := fun c => f223 (u := u) c ks v hl
 refine call_runs (g := g180) (by rfl) (by rfl) (by rfl) ?_
 have he : exps m.blks.length false (ks.map (AV.int .i64)) = ks.map (AV.int .i64) := by rw [exps_eq,List.map_map]; exact List.map_congr_left fun _ _ => rfl
 simp only [List.map_cons,List.map_nil,exp,he,g180,c180]
 cases hf : ks.findIdx? (· == v) with
 | none =>
  have hc : ks.contains v = false := by
   rw [List.findIdx?_eq_none_iff] at hf
   cases h : ks.contains v with
   | false => rfl
   | true =>
    rw [List.contains_iff_mem] at h
    have := hf v h
    simp at this
  rw [hf] at e
  rw [hc]
  simp [e]
 | some i =>
  have hc : ks.contains v = true := by
   rw [List.findIdx?_eq_some_iff_getElem] at hf
   obtain ⟨h1,h2,_⟩ := hf
   rw [List.contains_iff_mem]
   have : ks[i] = v := by simpa using h2
   rw [<- this]; exact List.getElem_mem h1
  rw [hf] at e
  rw [hc]
  have : (0 : Int) <= (i : Int) := by omega
  simp [e,this]
theorem f179 {id : Nat} {k n : Int} {s : List Nat} {c : Cap} {l : List Idx} (m : Mem) (hid : m.blks[id]? = some (.cells [.int .i64 k,.int .i64 n,.str s,.list c (Idx.avs l)])) (i : Nat) (iv : Int) (hiv : iv = (i : Int)) (hi : i < l.length)
  (e : ∀ m,cvl (C u) (.fn (.func 114) [] []) [l[i].av] m = some (.str l[i].text,m)) (hlen : l[i].text.length < 1000000000) (cc : Cap) (ks : List Int) (hks : ks.length < 10) :
  cvl (C u) (.fn (.func 179) [] [.gptr id 0]) [.int .i64 iv,.list cc (ks.map (AV.int .i64))] m = some (.str (paren (ks.contains l[i].kind) l[i].text),m) := by
 subst hiv
 have hlt := get_lt hid
 have e180 := fun c v => f180 (u := u) c ks v (by omega)
 refine clo_runs (g := g179) (by rfl) (by rfl) (by rfl) ?_
 have he : exps m.blks.length false (ks.map (AV.int .i64)) = ks.map (AV.int .i64) := by rw [exps_eq,List.map_map]; exact List.map_congr_left fun _ _ => rfl
 simp only [List.nil_append,List.cons_append,List.map_cons,List.map_nil,exp,he,hlt,if_true,g179,c179]
 have hg := avs_get l i hi
 generalize l[i] = y at *
 generalize y.text = t at *
 obtain ⟨k',n',s',c2,l'⟩ := y
 simp only [Idx.av] at hg e
 simp only [Idx.kind]
 cases hb : ks.contains k' with
 | true =>
  have a1 : aStr .add [40] t = some (.str ([40] ++ t)) := aStr_add (by simp; omega)
  have a2 : aStr .add ([40] ++ t) [41] = some (.str ([40] ++ t ++ [41])) := aStr_add (by simp; omega)
  simp only [List.cons_append,List.nil_append] at a1 a2
  have e' := fun c => e180 c k'
  rw [hb] at e'
  simp [hid,avs_len,hi,hg,e,e',a1,a2,paren]
 | false =>
  have e' := fun c => e180 c k'
  rw [hb] at e'
  simp [hid,avs_len,hi,hg,e,e',paren]
theorem f109 (n : Int) (h0 : 0 <= n) (h1 : n < 100) (m : Mem) : cvl (C u) (.fn (.func 109) [] []) [.int .i64 n] m = some (.str (dec2 n.toNat),m) := by
 refine call_prim (p := pItoa) (by rfl) ?_
 simp [exp,pItoa,h0,h1]
theorem sum_mem (k : Int) : ([3,4] : List Int).contains k = isSum k := by
 by_cases h3 : k = 3
 ·subst h3; rfl
 ·by_cases h4 : k = 4
  ·subst h4; rfl
  ·simp [isSum,h3,h4]
theorem op_mem {k : Int} (h : 1 <= k /\ k <= 5) : ([3,4,5] : List Int).contains k = decide (3 <= k) := by
 have : k = 1 \/ k = 2 \/ k = 3 \/ k = 4 \/ k = 5 := by omega
 rcases this with rfl | rfl | rfl | rfl | rfl <;> rfl
theorem f114 (x : Idx) : x.Ok -> x.Shp -> x.cnt < 1000000 -> ∀ (m : Mem),cvl (C u) (.fn (.func 114) [] []) [x.av] m = some (.str x.text,m) := by
 refine Idx.ind' (Q := fun x => x.Ok -> x.Shp -> x.cnt < 1000000 -> ∀ (m : Mem),cvl (C u) (.fn (.func 114) [] []) [x.av] m = some (.str x.text,m)) (fun k n s c l ih hok hsh hcnt m => ?_) x
 have hlen := Idx.text_len _ hsh
 have hnl : ∀ M : Mem,M.nol = nol := fun _ => rfl
 have hna : nols (Idx.avs l) = Idx.avs l := by
  rw [nols_eq,Idx.avs_eq,List.map_map]; exact List.map_congr_left fun y _ => Idx.nol_av y
 refine call_runs (g := g114) (by rfl) (by rfl) (by rfl) ?_
 simp only [List.map_cons,List.map_nil,Idx.exp_av _ _ _ hok,g114,c114]
 have hid : (m.blks ++ [Blk.cells [.int .i64 k,.int .i64 n,.str s,.list c (Idx.avs l)]])[m.blks.length]? = some (.cells [.int .i64 k,.int .i64 n,.str s,.list c (Idx.avs l)]) := by simp
 have e179 := fun i iv hiv hi e hl cc ks hks => f179 (u := u) (id := m.blks.length) { blks := m.blks ++ [.cells [.int .i64 k,.int .i64 n,.str s,.list c (Idx.avs l)]],touched := [] } hid i iv hiv hi e hl cc ks hks
 rcases shp_cases hsh with ⟨rfl,hn1,hn2,rfl⟩ | ⟨rfl,rfl⟩ | ⟨hk,a,b,rfl⟩
 ·have e := fun m => f109 (u := u) n hn1 hn2 m
  simp [Idx.av,Idx.text,joinT,Mem.push,hnl,nol,nols,hna,e,Idx.avs]
 ·simp [Idx.av,Idx.text,joinT,Mem.push,hnl,nol,nols,hna,Idx.avs]
 ·have hca : a.cnt < 1000000 := by simp only [Idx.cnt,Idx.cnts] at hcnt; omega
  have hcb : b.cnt < 1000000 := by simp only [Idx.cnt,Idx.cnts] at hcnt; omega
  have iha := ih a (by simp) hok.2.1 hsh.2.2.1 hca
  have ihb := ih b (by simp) hok.2.2.1 hsh.2.2.2.1 hcb
  have la' := Idx.text_len _ hsh.2.2.1
  have lb' := Idx.text_len _ hsh.2.2.2.1
  have e0 := fun cc ks hks => e179 0 0 rfl (by simp) iha (by simp; omega) cc ks hks
  have e1 := fun cc ks hks => e179 1 1 rfl (by simp) ihb (by simp; omega) cc ks hks
  have e0n := e0 .nil [] (by simp)
  have e0s := fun cc => e0 cc [3,4] (by simp)
  have e1s := fun cc => e1 cc [3,4] (by simp)
  have e1o := fun cc => e1 cc [3,4,5] (by simp)
  have hkb : 1 <= b.kind /\ b.kind <= 5 := by
   have := hsh.2.2.2.1
   obtain ⟨kb,nb,sb,cb,lb⟩ := b
   rcases shp_cases this with ⟨rfl,_⟩ | ⟨rfl,_⟩ | ⟨h,_⟩ <;> simp only [Idx.kind] <;> omega
  simp only [List.getElem_cons_zero,List.getElem_cons_succ,sum_mem,op_mem hkb,List.map_cons,List.map_nil,List.contains_nil,paren_false] at e0n e0s e1s e1o
  have p1 : ∀ q : Bool,(paren q a.text).length <= a.text.length + 2 := fun q => paren_len q a.text
  have p2 : ∀ q : Bool,(paren q b.text).length <= b.text.length + 2 := fun q => paren_len q b.text
  simp only [Idx.text,Idx.texts,joinT,List.map_cons,List.map_nil] at hlen ⊢
  generalize a.text = ta at *
  generalize b.text = tb at *
  generalize a.kind = ka at *
  generalize b.kind = kb at *
  have p1' := p1 (isSum ka)
  have p2' := p2 (isSum kb)
  have p2'' := p2 (decide (3 <= kb))
  simp only [Idx.av]
  generalize Idx.avs [a,b] = L at *
  rcases hk with rfl | rfl | rfl
  ·simp only [show ¬ (3 : Int) = 1 by decide,show ¬ (3 : Int) = 2 by decide,show ¬ (3 : Int) = 5 by decide,if_false,decide_false,Bool.false_and,paren_false,opT,if_true]
   generalize paren (isSum kb) tb = tbs at *
   have a1 : aStr .add ta [32,43,32] = some (.str (ta ++ [32,43,32])) := aStr_add (by simp; omega)
   have a2 : aStr .add (ta ++ [32,43,32]) tbs = some (.str (ta ++ [32,43,32] ++ tbs)) := aStr_add (by simp; omega)
   clear e179 e0 e1 e0s e1o
   simp [Mem.push,hnl,nol,nols,hna,e0n,e1s,a1,a2,shaped,AV.one]
  ·simp only [show ¬ (4 : Int) = 1 by decide,show ¬ (4 : Int) = 2 by decide,show ¬ (4 : Int) = 5 by decide,show ¬ (4 : Int) = 3 by decide,if_false,decide_false,Bool.false_and,paren_false,opT,if_true]
   generalize paren (isSum kb) tb = tbs at *
   have a1 : aStr .add ta [32,45,32] = some (.str (ta ++ [32,45,32])) := aStr_add (by simp; omega)
   have a2 : aStr .add (ta ++ [32,45,32]) tbs = some (.str (ta ++ [32,45,32] ++ tbs)) := aStr_add (by simp; omega)
   simp [Mem.push,hnl,nol,nols,hna,e0n,e1s,a1,a2,shaped,AV.one]
  ·simp only [show ¬ (5 : Int) = 1 by decide,show ¬ (5 : Int) = 2 by decide,show ¬ (5 : Int) = 4 by decide,show ¬ (5 : Int) = 3 by decide,if_false,decide_true,Bool.true_and,opT,if_true]
   generalize paren (isSum ka) ta = tas at *
   generalize paren (decide (3 <= kb)) tb = tbs at *
   have a1 : aStr .add tas [32,42,32] = some (.str (tas ++ [32,42,32])) := aStr_add (by simp; omega)
   have a2 : aStr .add (tas ++ [32,42,32]) tbs = some (.str (tas ++ [32,42,32] ++ tbs)) := aStr_add (by simp; omega)
   simp [Mem.push,hnl,nol,nols,hna,e0s,e1o,a1,a2,shaped,AV.one]
end Go.Abs.Tz
set_option maxRecDepth 100000
set_option maxHeartbeats 8000000
namespace Go.Abs.Tz
open Go.Abs
variable {u : Nat}
attribute [local simp] exec aops astep wantedA aop evO setO setU getE getE_setE lget lget_lset aBin aInt aUn AV.cells newVar padd rd wr asElem single splice adraw ascan Runs gets RV.get tupled frz_int frz_bool frz_str
theorem f114n (x : Idx) (hok : x.Ok) (h : ixR x) (m : Mem) : cvl (C u) (.fn (.func 114) [] []) [.agg x.four] m = some (.str x.text,m) := by
 have := f114 (u := u) x hok h.1 (by have := h.2; omega) m
 rwa [Idx.av_four] at this
theorem strsOf_map (l : List (List Nat)) : strsOf (l.map AV.str) = some l := by
 induction l with
 | nil => rfl
 | cons a l ih => simp [strsOf,ih]
theorem joinN_commas (l : List (List Nat)) : joinN [44,32] l = commas l := by
 induction l with
 | nil => rfl
 | cons a l ih =>
  cases l with
  | nil => rfl
  | cons b l => simp only [joinN,commas,ih]
theorem f174 (c : Cap) (l : List (List Nat)) (sep : List Nat) (h1 : (joinN sep l).length <= 1000000) (h2 : l.length <= 1000000) (m : Mem) : cvl (C u) (.fn (.func 174) [] []) [.list c (l.map AV.str),.str sep] m = some (.str (joinN sep l),m) := by
 refine call_prim (p := pJoin) (by rfl) ?_
 have he : ∀ k,exps m.blks.length k (l.map AV.str) = l.map AV.str := fun k => by rw [exps_eq,List.map_map]; exact List.map_congr_left fun _ _ => rfl
 simp only [List.nil_append,List.append_nil,List.map_cons,List.map_nil,exp,he]
 cases l with
 | nil => rfl
 | cons a l =>
  have h1' : (joinN sep (a :: l)).length <= 140737488355328 := by omega
  have h2' : (a :: l).length <= 140737488355328 := by omega
  have hs := strsOf_map (a :: l)
  simp only [List.map_cons] at hs ⊢
  simp only [pJoin,hs,h1',h2',and_self,if_true]
theorem f110 (c : Cap) (l : List (List Nat)) (h1 : (commas l).length <= 1000000) (h2 : l.length <= 1000000) (m : Mem) : cvl (C u) (.fn (.func 110) [] []) [.list c (l.map AV.str)] m = some (.str (commas l),m) := by
 have e := fun c m => f174 (u := u) c l [44,32] (by rw [joinN_commas]; exact h1) h2 m
 rw [joinN_commas] at e
 refine call_runs (g := g110) (by rfl) (by rfl) (by rfl) ?_
 have he : ∀ k,exps m.blks.length k (l.map AV.str) = l.map AV.str := fun k => by rw [exps_eq,List.map_map]; exact List.map_congr_left fun _ _ => rfl
 simp only [List.map_cons,List.map_nil,exp,he,g110,c110]
 simp [e]
theorem str_lv (n : Nat) (l : List (List Nat)) : Lvs false n 1 (l.map AV.str) (l.map AV.str) := Lvs.of _ _ fun x _ => ⟨Lv.str n x,rfl⟩
theorem str_app {B ext : List Blk} {c : Cap} {l : List AV} {v : List Nat} {len : Nat} (h : RowN B.length (B ++ ext) 1 9 c len) (hlen : l.length = len) (hl : l.all (shaped false 1) = true) (hb : len <= 1000000) :
  ∃ c' ext',(∀ T,aApp { blks := B ++ ext,touched := T } false 1 16 9 (.list c l) (.list .full [.str v]) = some (.list c' (l ++ [.str v]),{ blks := B ++ ext',touched := T })) /\ RowN B.length (B ++ ext') 1 9 c' (len + 1) ∧
   ∀ c2 k2,RowN B.length (B ++ ext) 1 9 c2 k2 -> (c2 = .nil \/ c2 ≠ c) -> RowN B.length (B ++ ext') 1 9 c2 k2 /\ (c' = .nil \/ c' ≠ c2) := by
 subst hlen
 have hv : shaped false 1 (.str v) = true := rfl
 rcases h.r with ⟨hc,h0⟩ | ⟨t,rfl,h1,h2⟩
 ·have hcn := h.n h0
  subst hcn
  have : l = [] := List.eq_nil_of_length_eq_zero h0
  subst this
  refine ⟨.own (B.length + ext.length),ext ++ [.front 1 1 9],fun T => ?_,⟨.inr ⟨_,rfl,by omega,?_⟩,by simp⟩,fun c2 k2 hr _ => ?_⟩
  ·simp [aApp,hv,Mem.push,Mem.nol,nol]
  ·rw [<- List.append_assoc]
   have : B.length + ext.length = (B ++ ext).length := by simp
   rw [this]; simp
  ·rcases hr.r with ⟨h1,h3⟩ | ⟨t,rfl,h1,h2⟩
   ·have := hr.n h3
    subst this
    exact ⟨⟨.inl ⟨.inl rfl,h3⟩,fun _ => rfl⟩,.inr (by simp)⟩
   ·have ht : t < (B ++ ext).length := get_lt h2
    refine ⟨⟨.inr ⟨t,rfl,h1,?_⟩,hr.n⟩,.inr ?_⟩
    ·rw [<- List.append_assoc,List.getElem?_append_left ht]; exact h2
    ·simp at ht; simp; omega
 ·have ht : t < (B ++ ext).length := get_lt h2
  have hset : (B ++ ext).set t (.front (l.length + 1) 1 9) = B ++ ext.set (t - B.length) (.front (l.length + 1) 1 9) := by
   rw [List.set_append,if_neg (by omega)]
  have hb1 : (l.length + 1) * 16 <= 140737488355328 := by omega
  have hb2 : l.length + 1 <= 140737488355328 := by omega
  refine ⟨.own t,ext.set (t - B.length) (.front (l.length + 1) 1 9),fun T => ?_,⟨.inr ⟨t,rfl,h1,?_⟩,by simp⟩,fun c2 k2 hr hne => ?_⟩
  ·simp only [aApp]
   simp only [List.all_cons,hv,List.all_nil,Bool.and_self,hl,show 0 < 1 by decide,decide_true,List.length_cons,List.length_nil,Nat.zero_add,hb1,hb2,h2,Bool.true_and,if_true,and_self,List.map_cons,List.map_nil,Mem.nol,nol,Mem.put,hset]
  ·rw [<- hset,List.getElem?_set_self ht]
  ·rcases hr.r with ⟨h3,h4⟩ | ⟨t',rfl,h3,h4⟩
   ·have := hr.n h4
    subst this
    exact ⟨⟨.inl ⟨.inl rfl,h4⟩,fun _ => rfl⟩,.inr (by simp)⟩
   ·have htt : t ≠ t' := by
     rintro rfl
     rcases hne with h | h
     ·cases h
     ·exact h rfl
    refine ⟨⟨.inr ⟨t',rfl,h3,?_⟩,hr.n⟩,.inr (by simpa using htt)⟩
    rw [<- hset,List.getElem?_set_ne htt]; exact h4
theorem f172 (c : Cap) (hc : okCap c) (pl : List Plc) (hpl : ∀ p ∈ pl,p.Ok) (h : plR pl) (m : Mem) : cvl (C u) (.fn (.func 172) [] []) [.list c (pl.map Plc.av)] m = some (.str (plcsT pl),m) := by
 refine call_runs (g := g172) (by rfl) (by rfl) (by rfl) ?_
 simp only [List.map_cons,List.map_nil,plc_exp hc hpl,g172,c172]
 have h4 := h.1
 have hnl : ∀ M : Mem,M.nol = nol := fun _ => rfl
 let n := m.blks.length
 let MM : List Blk -> St -> Prop := fun ext st => st.mem = { blks := m.blks ++ ext,touched := [] }
 refine Runs.seq' (M := fun st => getE st.env 0 = .list c (pl.map Plc.av) /\ MM [] st) (by simp [MM]) fun s1 ⟨h1,h2⟩ => ?_
 simp only [MM] at h2
 refine Runs.seq' (M := fun st => getE st.env 0 = .list c (pl.map Plc.av) /\ MM [] st /\ getE st.env 3 = .list .nil []) (by simp [MM,h1,h2]) fun s1 ⟨h1,h2,h3⟩ => ?_
 simp only [MM] at h2
 refine Runs.seq (M := fun st => ∃ ext cp,MM ext st /\ getE st.env 3 = .list cp ((pl.map Plc.text).map AV.str)) ?_ fun s2 ⟨ext,cp,h2,h3⟩ => ?_
 ·let J : Nat -> St -> Prop := fun i st => getE st.env 10 = .list c (pl.map Plc.av) /\ getE st.env 11 = .int .i64 pl.length /\ getE st.env 12 = .int .i64 i
  let I : Nat -> St -> Prop := fun i st => J i st /\ ∃ ext cp,MM ext st /\ getE st.env 3 = .list cp (((pl.take i).map Plc.text).map AV.str) /\ RowN n (m.blks ++ ext) 1 9 cp i
  refine Runs.seq' (M := fun st => J 0 st /\ MM [] st /\ getE st.env 3 = .list .nil []) (by simp [J,MM,h1,h2,h3]) fun s4 ⟨a1,a2,a3⟩ => ?_
  refine Runs.block (Runs.upto (I := I) pl.length ⟨a1,[],.nil,a2,a3,RowN.nil⟩ (fun i st hlt hst => ?_) (fun st hst => ?_))
  ·obtain ⟨⟨q1,q2,q3⟩,ext,cp,h2,h3,r⟩ := hst
   simp only [MM] at h2
   have hwi : IntKind.wrap .i64 ((i : Int) + 1) = (i : Int) + 1 := wrap_i64 (by omega) (by omega)
   have hm : pl[i] ∈ pl := List.getElem_mem hlt
   have hpo := hpl _ hm
   obtain ⟨hp1,hp2,hp3⟩ := h.2 _ hm
   have hsn : ((pl.take (i + 1)).map Plc.text).map AV.str = ((pl.take i).map Plc.text).map AV.str ++ [.str pl[i].text] := by
    rw [List.take_succ_eq_append_getElem hlt,List.map_append,List.map_append]; rfl
   have hLl : (((pl.take i).map Plc.text).map AV.str).length = i := by rw [List.length_map,List.length_map,List.length_take]; omega
   have hs := (str_lv n ((pl.take i).map Plc.text)).s
   generalize ((pl.take i).map Plc.text).map AV.str = L at *
   have htx : pl[i].text = if pl[i].ix = [] then pl[i].name else pl[i].name ++ ([91] ++ joinN [32,58,32] (pl[i].ix.map Idx.text) ++ [93]) := by
    generalize pl[i] = p at hp2 ⊢
    obtain ⟨nm,cc,ix⟩ := p
    simp only at hp2 ⊢
    match ix,hp2 with
    | [],_ => rfl
    | [a],_ => simp [Plc.text,joinN]
    | [a,b],_ => simp [Plc.text,joinN]
    | _ :: _ :: _ :: _,h => simp at h
   have hjl : (joinN [32,58,32] (pl[i].ix.map Idx.text)).length <= 300 := by
    generalize pl[i] = p at hp2 hp3 ⊢
    obtain ⟨nm,cc,ix⟩ := p
    simp only at hp2 hp3 ⊢
    match ix,hp2,hp3 with
    | [],_,_ => simp [joinN]
    | [a],_,hp3 => have := ixR_len (hp3 a (by simp)); simp [joinN]; omega
    | [a,b],_,hp3 => have := ixR_len (hp3 a (by simp)); have := ixR_len (hp3 b (by simp)); simp [joinN]; omega
    | _ :: _ :: _ :: _,h,_ => simp at h
   have e174 := fun c m => f174 (u := u) c (pl[i].ix.map Idx.text) [32,58,32] (by omega) (by rw [List.length_map]; omega) m
   refine Runs.seq' (M := fun st => J i st /\ MM ext st /\ getE st.env 3 = .list cp L /\ getE st.env 13 = .bool true) (by simp [J,MM,h2,h3,q1,q2,q3,hlt]) fun s5 ⟨⟨q1,q2,q3⟩,h2,h3,q4⟩ => ?_
   simp only [MM] at h2
   refine Runs.seq' (M := fun st => J i st /\ MM ext st /\ getE st.env 3 = .list cp L) (by simp [J,MM,h2,h3,q1,q2,q3,q4]) fun s5 ⟨⟨q1,q2,q3⟩,h2,h3⟩ => ?_
   simp only [MM] at h2
   refine Runs.seq (M := fun st => J i st /\ ∃ ext2 cp2,MM ext2 st /\ getE st.env 3 = .list cp2 (L ++ [.str pl[i].text]) /\ RowN n (m.blks ++ ext2) 1 9 cp2 (i + 1)) ?_ fun s6 ⟨⟨q1,q2,q3⟩,ext2,cp2,h2,h3,r2⟩ => by
    simp only [MM] at h2
    exact Runs.fin (M := fun st => J (i + 1) st /\ MM ext2 st /\ getE st.env 3 = .list cp2 (L ++ [.str pl[i].text])) .normal (by simp [J,MM,h2,h3,q1,q2,q3,hwi]) fun s' ⟨d1,d2,d3⟩ => .inl ⟨rfl,d1,ext2,cp2,d2,by rw [hsn]; exact d3,r2⟩
   refine Runs.block ?_
   let J2 : St -> Prop := fun st => J i st /\ getE st.env 3 = .list cp L /\ ∃ v,getE st.env 5 = .lptr 5 v 0 /\ lget st.loc 5 = some (v,.cells [.str pl[i].name,.list pl[i].c (Idx.avs pl[i].ix)])
   refine Runs.seq' (M := fun st => J2 st /\ MM ext st) (by simp [J2,J,MM,h2,h3,q1,q2,q3,hlt,Plc.av,Idx.avs_eq]) fun s5 ⟨⟨⟨q1,q2,q3⟩,h3,v,q4,q5⟩,h2⟩ => ?_
   simp only [MM] at h2
   refine Runs.seq' (M := fun st => J2 st /\ MM ext st /\ getE st.env 6 = .list .nil []) (by simp [J2,J,MM,h2,h3,q1,q2,q3,q4,q5]) fun s5 ⟨⟨⟨q1,q2,q3⟩,h3,v,q4,q5⟩,h2,q6⟩ => ?_
   simp only [MM] at h2
   refine Runs.seq (M := fun st => J2 st /\ ∃ x2 cq,MM x2 st /\ getE st.env 6 = .list cq ((pl[i].ix.map Idx.text).map AV.str) /\ RowN n (m.blks ++ x2) 1 9 cp i) ?_ fun s6 ⟨⟨⟨q1,q2,q3⟩,h3,v,q4,q5⟩,x2,cq,h2,q6,r⟩ => ?_
   ·let JX : St -> Prop := fun st => J2 st /\ getE st.env 17 = .list pl[i].c (Idx.avs pl[i].ix) /\ getE st.env 18 = .int .i64 pl[i].ix.length
    let I2 : Nat -> St -> Prop := fun q st => JX st /\ getE st.env 19 = .int .i64 q /\ ∃ x2 cq,MM x2 st /\ getE st.env 6 = .list cq (((pl[i].ix.take q).map Idx.text).map AV.str) /\ RowN n (m.blks ++ x2) 1 9 cq q /\ RowN n (m.blks ++ x2) 1 9 cp i /\ (cq = .nil \/ cq ≠ cp)
    refine Runs.seq' (M := fun st => JX st /\ getE st.env 19 = .int .i64 0 /\ MM ext st /\ getE st.env 6 = .list .nil []) (by simp [JX,J2,J,MM,h2,h3,q1,q2,q3,q4,q5,q6,avs_len]) fun s6 ⟨a1,a2,a3,a4⟩ => ?_
    refine Runs.block (Runs.upto (I := I2) pl[i].ix.length ⟨a1,a2,ext,.nil,a3,a4,RowN.nil,r,.inl rfl⟩ (fun q st hlt2 hst => ?_) (fun st hst => ?_))
    ·obtain ⟨⟨⟨⟨q1,q2,q3⟩,h3,v,q4,q5⟩,z1,z2⟩,z3,x2,cq,h2,z4,r4,r,hne⟩ := hst
     simp only [MM] at h2
     have hwq : IntKind.wrap .i64 ((q : Int) + 1) = (q : Int) + 1 := wrap_i64 (by omega) (by omega)
     have hxm : pl[i].ix[q] ∈ pl[i].ix := List.getElem_mem hlt2
     have e114 := fun m => f114n (u := u) pl[i].ix[q] (hpo.2.2 _ hxm).1 (hp3 _ hxm) m
     have hxg := avs_get pl[i].ix q hlt2
     have hs2 : ((pl[i].ix.take (q + 1)).map Idx.text).map AV.str = ((pl[i].ix.take q).map Idx.text).map AV.str ++ [.str (pl[i].ix[q]).text] := by
      rw [List.take_succ_eq_append_getElem hlt2,List.map_append,List.map_append]; rfl
     have hLq : (((pl[i].ix.take q).map Idx.text).map AV.str).length = q := by rw [List.length_map,List.length_map,List.length_take]; omega
     have hsq := (str_lv n ((pl[i].ix.take q).map Idx.text)).s
     generalize ((pl[i].ix.take q).map Idx.text).map AV.str = LQ at *
     obtain ⟨cq',x3,b1,b2,b3⟩ := str_app (v := (pl[i].ix[q]).text) r4 hLq hsq (by omega)
     obtain ⟨b4,b5⟩ := b3 cp i r (by
      rcases hne with h | h
      ·rcases r.r with ⟨h5 | h5,h6⟩ | ⟨t,h5,_⟩
       ·exact .inl h5
       ·exact .inl (r.n h6)
       ·exact .inr (by rw [h5,h]; simp)
      ·exact .inr (Ne.symm h))
     have h44 := Idx.four_len pl[i].ix[q]
     have htk : (pl[i].ix[q]).four.take 4 = (pl[i].ix[q]).four := List.take_of_length_le (by omega)
     rw [Idx.av_four] at hxg
     refine Runs.fin (M := fun st => JX st /\ getE st.env 19 = .int .i64 ((q : Int) + 1) /\ MM x3 st /\ getE st.env 6 = .list cq' (LQ ++ [.str (pl[i].ix[q]).text])) .normal (by
      simp [l172_0,JX,J2,J,MM,h2,h3,q1,q2,q3,q4,q5,z1,z2,z3,z4,hlt2,avs_len,hxg,h44,htk,e114,shaped,AV.one,hnl,nol,b1,hwq]) fun s' ⟨d1,d2,d3,d4⟩ => .inl ⟨rfl,d1,d2,x3,cq',d3,by rw [hs2]; exact d4,b2,b4,b5⟩
    ·obtain ⟨⟨⟨⟨q1,q2,q3⟩,h3,v,q4,q5⟩,z1,z2⟩,z3,x2,cq,h2,z4,r4,r,hne⟩ := hst
     simp only [MM] at h2
     rw [List.take_length] at z4
     refine Runs.fin (M := fun st => J2 st /\ MM x2 st /\ getE st.env 6 = .list cq ((pl[i].ix.map Idx.text).map AV.str)) (.exit 2) (by
      simp [l172_0,J2,J,MM,h2,h3,q1,q2,q3,q4,q5,z1,z2,z3,z4]) fun s' ⟨d1,d2,d3⟩ => ?_
     exact ⟨by simp,.inl ⟨rfl,.inl ⟨rfl,d1,x2,cq,d2,d3,r⟩⟩⟩
   ·simp only [MM] at h2
    obtain ⟨cp',x3,b1,b2,-⟩ := str_app (v := pl[i].text) r hLl hs (by omega)
    refine Runs.fin (M := fun st => J i st /\ MM x3 st /\ getE st.env 3 = .list cp' (L ++ [.str pl[i].text])) .normal (by
     by_cases h0 : pl[i].ix = []
     ·rw [if_pos h0] at htx
      rw [htx] at b1
      rw [htx]
      simp only [h0,List.map_nil] at q6
      simp [J,MM,h2,h3,q1,q2,q3,q4,q5,q6,shaped,AV.one,hnl,nol,b1]
     ·rw [if_neg h0] at htx
      have hl0 : (0 : Int) < (pl[i].ix.length : Int) := by have := List.length_pos_iff.2 h0; omega
      have hl0' : 0 < pl[i].ix.length := List.length_pos_iff.2 h0
      have hjm : (pl[i].ix.map Idx.text).map AV.str = pl[i].ix.map (AV.str ∘ Idx.text) := by rw [List.map_map]
      rw [hjm] at q6 e174
      generalize joinN [32,58,32] (pl[i].ix.map Idx.text) = tj at *
      have a1 : aStr .add [91] tj = some (.str ([91] ++ tj)) := aStr_add (by simp; omega)
      have a2 : aStr .add ([91] ++ tj) [93] = some (.str ([91] ++ tj ++ [93])) := aStr_add (by simp; omega)
      have a3 : aStr .add pl[i].name ([91] ++ tj ++ [93]) = some (.str (pl[i].name ++ ([91] ++ tj ++ [93]))) := aStr_add (by simp; omega)
      simp only [List.cons_append,List.nil_append] at a1 a2 a3 htx
      rw [htx] at b1
      rw [htx]
      simp [J,MM,h2,h3,q1,q2,q3,q4,q5,q6,hl0,hl0',e174,a1,a2,a3,shaped,AV.one,hnl,nol,b1]) fun s' ⟨d1,d2,d3⟩ => ?_
    simp
    exact ⟨d1,x3,d2,cp',d3,b2⟩
  ·obtain ⟨⟨q1,q2,q3⟩,ext,cp,h2,h3,r⟩ := hst
   simp only [MM] at h2
   rw [List.take_length] at h3
   refine Runs.fin (M := fun st => MM ext st /\ getE st.env 3 = .list cp ((pl.map Plc.text).map AV.str)) (.exit 0) (by simp [l172_1,MM,h2,h3,q1,q2,q3]) fun s' ⟨d1,d2⟩ => ?_
   exact ⟨by simp,.inl ⟨rfl,.inl ⟨rfl,ext,cp,d1,d2⟩⟩⟩
 ·simp only [MM] at h2
  have hl := plcsT_len h
  have e := fun c m => f110 (u := u) c (pl.map Plc.text) (by have : (commas (pl.map Plc.text)).length <= 1008 := hl; omega) (by rw [List.length_map]; omega) m
  simp only [plcsT,List.map_map] at e ⊢
  rw [List.map_map] at h3
  simp [h2,h3,e,frz_str]
end Go.Abs.Tz
