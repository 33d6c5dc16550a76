/- A text of this proof. -/
import Derived.Test.YtiigojkfojnedaaGreatDoorPHy
import Derived.Test.YtiigojkfojnedaaGreatDoorPHs
import Derived.Test.YtiigojkfojnedaaGreatDoorPVh
set_option linter.unusedVariables false
set_option linter.unusedSimpArgs false
set_option maxRecDepth 100000
set_option maxHeartbeats 8000000
namespace Go.Abs.Tz
open Go.Abs
variable {u : Nat}
attribute [local simp] exec aops astep wantedA aop evO setO setU getE getE_setE lget lget_lset aBin aInt aUn AV.cells newVar padd rd wr asElem single splice adraw ascan Runs gets RV.get tupled frz_int frz_bool frz_str
theorem f111 (B : List Blk) (s : List Nat) (ext : List Blk) (T : List Nat) :
  cvl (C u) (.fn (.func 111) [] []) [.gptr B.length 0] { blks := pM B s ++ ext,touched := T } = some (.str s,{ blks := B ++ ([.dead,.cells [.fn (.func 105) [] [.gptr B.length 0,.gptr (B.length + 1) 0]]] ++ ext),touched := T }) := by
 refine call_prim (p := pStr 150 5) (by rfl) ?_
 have hl : B.length < (pM B s ++ ext).length := by simp [pM_len]; omega
 have he : ∀ k,([] ++ [AV.gptr B.length 0] ++ []).map (exp (pM B s ++ ext).length k) = [.gptr B.length 0] := fun k => by
  simp only [List.nil_append,List.append_nil,List.map_cons,List.map_nil,exp,hl,if_true]
 rw [he]
 simp only [pStr,pM0,and_self,if_true,Mem.put]
 simp [pM]
def printT (ps : List Prc) : List Nat := if checkE ps = 0 then prcsT ps else []
theorem f25 (cps : Cap) (hcps : okCap cps) (ps : List Prc) (hps : ∀ x ∈ ps,x.Ok) (hpw : prcsW ps < 1000000000) (m : Mem) :
  cvl (C u) (.fn (.func 25) [] []) [prgAV cps ps] m = some (.tup [.str (printT ps),.int .i64 (checkE ps)],m) := by
 have e43 := fun m => f43 (u := u) cps hcps ps hps (by omega) m
 refine call_runs (g := g25) (by rfl) (by rfl) (by rfl) ?_
 simp only [List.map_cons,List.map_nil,exp_prg hcps hps]
 simp only [g25,c25,prgAV] at e43 ⊢
 have hz : ∀ bs n (a : List Nat) (i : Int),frz bs n 8 (.tup [.str a,.int .i64 i]) = .tup [.str a,.int .i64 i] := fun _ _ _ _ => rfl
 have hnl : ∀ M : Mem,M.nol = nol := fun _ => rfl
 let K : St -> Prop := fun st => getE st.env 1 = .lptr 1 0 0 /\ lget st.loc 1 = some (0,.cells [.list cps (ps.map Prc.av)])
 refine Runs.seq' (M := fun st => K st /\ st.mem = { blks := m.blks,touched := [] }) (by simp [K,newVer]) fun s1 ⟨⟨h1,h2⟩,h3⟩ => ?_
 unfold printT
 by_cases hc : checkE ps = 0
 case neg =>
  rw [if_neg hc]
  refine Runs.seq (M := fun _ => False) ?_ fun _ h => h.elim
  simp [h1,h2,h3,e43,bne_true hc,hz]
 rw [if_pos hc]
 obtain ⟨hl12,hR⟩ := checkE_R hc
 rw [hc] at e43 ⊢
 refine Runs.seq' (M := fun st => K st /\ st.mem = { blks := m.blks,touched := [] }) (by simp [K,h1,h2,h3,e43]) fun s1 ⟨⟨h1,h2⟩,h3⟩ => ?_
 refine Runs.seq' (M := fun st => K st /\ getE st.env 5 = .gptr m.blks.length 0 /\ st.mem = { blks := m.blks ++ [.bld 150 5 []],touched := [] }) (by simp [K,h1,h2,h3,Mem.push]) fun s1 ⟨⟨h1,h2⟩,h4,h3⟩ => ?_
 refine Runs.seq' (M := fun st => K st /\ getE st.env 5 = .gptr m.blks.length 0 /\ getE st.env 6 = .gptr (m.blks.length + 1) 0 /\ st.mem = { blks := m.blks ++ [.bld 150 5 [],.cells [.nilfn]],touched := [] }) (by simp [K,h1,h2,h3,h4,Mem.push,hnl,nol]) fun s1 ⟨⟨h1,h2⟩,h4,h5,h3⟩ => ?_
 let PM : List Nat -> List Blk -> St -> Prop := fun s x st => st.mem = { blks := pM m.blks s ++ x,touched := [] }
 let K2 : St -> Prop := fun st => K st /\ getE st.env 5 = .gptr m.blks.length 0 /\ getE st.env 6 = .gptr (m.blks.length + 1) 0
 refine Runs.seq' (M := fun st => K2 st /\ PM [] [] st) (by
  simp [K2,K,PM,pM,h1,h2,h3,h4,h5,Mem.put,hnl,nol,nols,los,lo,Fn.below]) fun s1 ⟨⟨⟨h1,h2⟩,h4,h5⟩,h3⟩ => ?_
 simp only [PM] at h3
 refine Runs.seq (M := fun st => K2 st /\ ∃ x,PM (prcsT ps) x st) ?_ fun s1 ⟨⟨⟨h1,h2⟩,h4,h5⟩,x,h3⟩ => ?_
 ·let J : Nat -> St -> Prop := fun i st => K2 st /\ getE st.env 19 = .list cps (ps.map Prc.av) /\ getE st.env 20 = .int .i64 ps.length /\ getE st.env 21 = .int .i64 i
  let I : Nat -> St -> Prop := fun i st => J i st /\ ∃ x,PM (prcsT (ps.take i)) x st
  refine Runs.seq' (M := fun st => J 0 st /\ PM [] [] st) (by simp [J,K2,K,PM,h1,h2,h3,h4,h5]) fun s4 ⟨a1,a2⟩ => ?_
  refine Runs.block (Runs.upto (I := I) ps.length ⟨a1,[],a2⟩ (fun i st hlt hst => ?_) (fun st hst => ?_))
  ·obtain ⟨⟨⟨⟨h1,h2⟩,h4,h5⟩,q1,q2,q3⟩,x,h3⟩ := hst
   simp only [PM] at h3
   have hwi : IntKind.wrap .i64 ((i : Int) + 1) = (i : Int) + 1 := wrap_i64 (by omega) (by omega)
   have hm : ps[i] ∈ ps := List.getElem_mem hlt
   have hok := hps _ hm
   have hr := hR _ hm
   have hwm := Prc.wt_mem hm
   simp only [Prc.wt] at hwm
   have hacc : (prcsT (ps.take i)).length <= 2400000 := by
    have := prcsT_len (ps.take i) fun x hx => hR x (List.mem_of_mem_take hx)
    rw [List.length_take] at this
    omega
   have hsn : prcsT (ps.take (i + 1)) = prcsT (ps.take i) ++ ps[i].text := by rw [List.take_succ_eq_append_getElem hlt,prcsT_append]
   have hll := lines_len ps[i].body [32,32] hr.body (by have := hr.deeps; simp; omega) (by have := hr.cnts; omega)
   have hnm := hr.name
   have hp4 := hr.pars
   have hpar := hr.par
   have hplen := parsT_len _ hpar hp4
   simp only [Prc.text,bl2] at hsn
   generalize prcsT (ps.take i) = S at *
   let P : List AV := [.str ps[i].name,.list ps[i].cp (ps[i].pars.map Par.av),.list ps[i].cb (Stp.avs ps[i].body)]
   let J2 : St -> Prop := fun st => J i st /\ ∃ v,getE st.env 8 = .lptr 8 v 0 /\ lget st.loc 8 = some (v,.cells P)
   refine Runs.seq' (M := fun st => J i st /\ PM S x st /\ getE st.env 22 = .bool true) (by simp [J,K2,K,PM,h1,h2,h3,h4,h5,q1,q2,q3,hlt]) fun s5 ⟨⟨⟨⟨h1,h2⟩,h4,h5⟩,q1,q2,q3⟩,h3,q4⟩ => ?_
   simp only [PM] at h3
   refine Runs.seq' (M := fun st => J i st /\ PM S x st) (by simp [J,K2,K,PM,h1,h2,h3,h4,h5,q1,q2,q3,q4]) fun s5 ⟨⟨⟨⟨h1,h2⟩,h4,h5⟩,q1,q2,q3⟩,h3⟩ => ?_
   simp only [PM] at h3
   refine Runs.seq (M := fun st => J i st /\ ∃ x2,PM (prcsT (ps.take (i + 1))) x2 st) ?_ fun s6 ⟨⟨⟨⟨h1,h2⟩,h4,h5⟩,q1,q2,q3⟩,x2,h3⟩ => by
    simp only [PM] at h3
    exact Runs.fin (M := fun st => J (i + 1) st /\ PM (prcsT (ps.take (i + 1))) x2 st) .normal (by simp [J,K2,K,PM,h1,h2,h3,h4,h5,q1,q2,q3,hwi]) fun s' ⟨d1,d2⟩ => .inl ⟨rfl,d1,x2,d2⟩
   refine Runs.block ?_
   refine Runs.seq' (M := fun st => J2 st /\ PM S x st) (by simp [J2,J,K2,K,PM,P,h1,h2,h3,h4,h5,q1,q2,q3,hlt,Prc.av]) fun s5 ⟨⟨⟨⟨⟨h1,h2⟩,h4,h5⟩,q1,q2,q3⟩,v,q4,q5⟩,h3⟩ => ?_
   simp only [PM] at h3
   simp only [P] at q5
   refine Runs.seq' (M := fun st => J2 st /\ PM S x st /\ getE st.env 9 = .list .nil []) (by simp [J2,J,K2,K,PM,P,h1,h2,h3,h4,h5,q1,q2,q3,q4,q5]) fun s5 ⟨⟨⟨⟨⟨h1,h2⟩,h4,h5⟩,q1,q2,q3⟩,v,q4,q5⟩,h3,q6⟩ => ?_
   simp only [PM] at h3
   simp only [P] at q5
   refine Runs.seq (M := fun st => J2 st /\ ∃ x2 cp,PM S x2 st /\ getE st.env 9 = .list cp ((ps[i].pars.map Par.text).map AV.str)) ?_ fun s6 ⟨⟨⟨⟨⟨h1,h2⟩,h4,h5⟩,q1,q2,q3⟩,v,q4,q5⟩,x2,cp,h3,q6⟩ => ?_
   ·let JX : St -> Prop := fun st => J2 st /\ getE st.env 26 = .list ps[i].cp (ps[i].pars.map Par.av) /\ getE st.env 27 = .int .i64 ps[i].pars.length
    let I2 : Nat -> St -> Prop := fun k st => JX st /\ getE st.env 28 = .int .i64 k /\ ∃ x2 cp,PM S x2 st /\ getE st.env 9 = .list cp (((ps[i].pars.take k).map Par.text).map AV.str) /\ RowN (pM m.blks S).length (pM m.blks S ++ x2) 1 9 cp k
    refine Runs.seq' (M := fun st => JX st /\ getE st.env 28 = .int .i64 0 /\ PM S x st /\ getE st.env 9 = .list .nil []) (by simp [JX,J2,J,K2,K,PM,P,h1,h2,h3,h4,h5,q1,q2,q3,q4,q5,q6]) fun s6 ⟨a1,a2,a3,a4⟩ => ?_
    refine Runs.block (Runs.upto (I := I2) ps[i].pars.length ⟨a1,a2,x,.nil,a3,a4,RowN.nil⟩ (fun k st hlt2 hst => ?_) (fun st hst => ?_))
    ·obtain ⟨⟨⟨⟨⟨⟨h1,h2⟩,h4,h5⟩,q1,q2,q3⟩,v,q4,q5⟩,z1,z2⟩,z3,x2,cp,h3,z4,r⟩ := hst
     simp only [PM] at h3
     simp only [P] at q5
     have hwk : IntKind.wrap .i64 ((k : Int) + 1) = (k : Int) + 1 := wrap_i64 (by omega) (by omega)
     have hpm : ps[i].pars[k] ∈ ps[i].pars := List.getElem_mem hlt2
     obtain ⟨n1,n2,n3⟩ := hpar _ hpm
     have e109 := fun m => f109 (u := u) ps[i].pars[k].size (by omega) (by omega) m
     have hd := dec2_len ps[i].pars[k].size.toNat
     have hs2 : ((ps[i].pars.take (k + 1)).map Par.text).map AV.str = ((ps[i].pars.take k).map Par.text).map AV.str ++ [.str (ps[i].pars[k]).text] := by
      rw [List.take_succ_eq_append_getElem hlt2,List.map_append,List.map_append]; rfl
     have hLq : (((ps[i].pars.take k).map Par.text).map AV.str).length = k := by rw [List.length_map,List.length_map,List.length_take]; omega
     have hsq := (str_lv 0 ((ps[i].pars.take k).map Par.text)).s
     generalize ((ps[i].pars.take k).map Par.text).map AV.str = LQ at *
     obtain ⟨cp',x3,b1,b2,-⟩ := str_app (v := (ps[i].pars[k]).text) r hLq hsq (by omega)
     simp only [Par.text] at b1 hs2
     generalize dec2 ps[i].pars[k].size.toNat = td at *
     have a1 : aStr .add ps[i].pars[k].name [91] = some (.str (ps[i].pars[k].name ++ [91])) := aStr_add (by simp; omega)
     have a2 : aStr .add (ps[i].pars[k].name ++ [91]) td = some (.str (ps[i].pars[k].name ++ [91] ++ td)) := aStr_add (by simp; omega)
     have a3 : aStr .add (ps[i].pars[k].name ++ [91] ++ td) [93] = some (.str (ps[i].pars[k].name ++ [91] ++ td ++ [93])) := aStr_add (by simp; omega)
     simp only [List.append_assoc,List.cons_append,List.nil_append] at a1 a2 a3 b1 hs2
     refine Runs.fin (M := fun st => JX st /\ getE st.env 28 = .int .i64 ((k : Int) + 1) /\ PM S x3 st /\ getE st.env 9 = .list cp' (LQ ++ [.str (ps[i].pars[k].name ++ 91 :: (td ++ [93]))])) .normal (by
      simp [l25_0,JX,J2,J,K2,K,PM,P,h1,h2,h3,h4,h5,q1,q2,q3,q4,q5,z1,z2,z3,z4,hlt2,Par.av,e109,a1,a2,a3,chkLoad,isSt,shaped,AV.one,hnl,nol,b1,hwk]) fun s' ⟨d1,d2,d3,d4⟩ => .inl ⟨rfl,d1,d2,x3,cp',d3,by rw [hs2]; exact d4,b2⟩
    ·obtain ⟨⟨⟨⟨⟨⟨h1,h2⟩,h4,h5⟩,q1,q2,q3⟩,v,q4,q5⟩,z1,z2⟩,z3,x2,cp,h3,z4,r⟩ := hst
     simp only [PM] at h3
     simp only [P] at q5
     rw [List.take_length] at z4
     refine Runs.fin (M := fun st => J2 st /\ PM S x2 st /\ getE st.env 9 = .list cp ((ps[i].pars.map Par.text).map AV.str)) (.exit 2) (by
      simp [l25_0,J2,J,K2,K,PM,P,h1,h2,h3,h4,h5,q1,q2,q3,q4,q5,z1,z2,z3,z4]) fun s' ⟨d1,d2,d3⟩ => ?_
     exact ⟨by simp,.inl ⟨rfl,.inl ⟨rfl,d1,x2,cp,d2,d3⟩⟩⟩
   ·simp only [PM] at h3
    simp only [P] at q5
    have e110 := fun c m => f110 (u := u) c (ps[i].pars.map Par.text) (by omega) (by rw [List.length_map]; omega) m
    rw [List.map_map] at q6 e110
    generalize commas (ps[i].pars.map Par.text) = tp at *
    have a1 : aStr .add [112,114,111,99,32] ps[i].name = some (.str ([112,114,111,99,32] ++ ps[i].name)) := aStr_add (by simp; omega)
    have a2 : aStr .add ([112,114,111,99,32] ++ ps[i].name) [40] = some (.str ([112,114,111,99,32] ++ ps[i].name ++ [40])) := aStr_add (by simp; omega)
    have a3 : aStr .add ([112,114,111,99,32] ++ ps[i].name ++ [40]) tp = some (.str ([112,114,111,99,32] ++ ps[i].name ++ [40] ++ tp)) := aStr_add (by simp; omega)
    have a4 : aStr .add ([112,114,111,99,32] ++ ps[i].name ++ [40] ++ tp) [41,32,123,10] = some (.str ([112,114,111,99,32] ++ ps[i].name ++ [40] ++ tp ++ [41,32,123,10])) := aStr_add (by simp; omega)
    have w1 := f106 (u := u) m.blks S ([112,114,111,99,32] ++ ps[i].name ++ [40] ++ tp ++ [41,32,123,10]) x2 [] (by simp; omega)
    have w2 := f105 (u := u) m.blks ps[i].body ps[i].cb hok.2.2.2.1 hok.2.2.2.2.1 hr.body [32,32] (by have := hr.deeps; simp; omega) (by omega) (S ++ ([112,114,111,99,32] ++ ps[i].name ++ [40] ++ tp ++ [41,32,123,10])) (by simp; omega) x2 []
    have p1 := pM1 m.blks (S ++ ([112,114,111,99,32] ++ ps[i].name ++ [40] ++ tp ++ [41,32,123,10])) x2
    have w3 := f106 (u := u) m.blks (S ++ ([112,114,111,99,32] ++ ps[i].name ++ [40] ++ tp ++ [41,32,123,10]) ++ linesT ps[i].body [32,32]) [125,10] x2 [] (by simp; omega)
    have hfin : prcsT (ps.take (i + 1)) = S ++ ([112,114,111,99,32] ++ ps[i].name ++ [40] ++ tp ++ [41,32,123,10]) ++ linesT ps[i].body [32,32] ++ [125,10] := by rw [hsn]; simp
    rw [hfin]
    refine Runs.fin (M := fun st => J i st /\ PM (S ++ ([112,114,111,99,32] ++ ps[i].name ++ [40] ++ tp ++ [41,32,123,10]) ++ linesT ps[i].body [32,32] ++ [125,10]) x2 st) .normal (by
     simp only [PM]
     generalize S ++ ([112,114,111,99,32] ++ ps[i].name ++ [40] ++ tp ++ [41,32,123,10]) ++ linesT ps[i].body [32,32] ++ [125,10] = S5 at *
     generalize S ++ ([112,114,111,99,32] ++ ps[i].name ++ [40] ++ tp ++ [41,32,123,10]) ++ linesT ps[i].body [32,32] = S4 at *
     generalize S ++ ([112,114,111,99,32] ++ ps[i].name ++ [40] ++ tp ++ [41,32,123,10]) = S3 at *
     simp only [List.append_assoc,List.cons_append,List.nil_append] at a1 a2 a3 a4 w1
     simp [J,K2,K,h1,h2,h3,h4,h5,q1,q2,q3,q4,q5,q6,e110,a1,a2,a3,a4,w1,w2,w3,p1,chkLoad,isSt]) fun s' ⟨d1,d2⟩ => ?_
    simp
    exact ⟨d1,x2,by simpa using d2⟩
  ·obtain ⟨⟨⟨⟨h1,h2⟩,h4,h5⟩,q1,q2,q3⟩,x,h3⟩ := hst
   simp only [PM] at h3
   rw [List.take_length] at h3
   refine Runs.fin (M := fun st => K2 st /\ PM (prcsT ps) x st) (.exit 0) (by simp [l25_1,K2,K,PM,h1,h2,h3,h4,h5,q1,q2,q3]) fun s' ⟨d1,d2⟩ => ?_
   exact ⟨by simp,.inl ⟨rfl,.inl ⟨rfl,d1,x,d2⟩⟩⟩
 ·simp only [PM] at h3
  have e111 := f111 (u := u) m.blks (prcsT ps) x []
  simp [h1,h2,h3,h4,h5,e111,hz]
theorem f26 (x : Idx) (hok : x.Ok) (hstr : x.Str) (hcnt : x.cnt < 1000000000000) (m : Mem) : cvl (C u) (.fn (.func 26) [] []) [x.av] m = some (.tup [.str (showT x),.int .i64 (x.err namedB 4)],m) := by
 have hfix : Fix m.blks.length (.fn (.func 113) [] []) := fun k b _ => by simp [exp,exps,Fn.below]
 have e1 := fun T => f112 (u := u) (B := m.blks) (F := .func 113) (fa := []) (fc := []) (may := namedB) 4 hfix rfl rfl (fun s hs e T => f113 (u := u) s hs _) x hok hstr hcnt [] T
 simp only [List.append_nil] at e1
 refine call_runs (g := g26) (by rfl) (by rfl) (by rfl) ?_
 simp only [List.map_cons,List.map_nil,Idx.exp_av _ _ _ hok,g26,c26,showT]
 have hz : ∀ bs n (a : List Nat) (i : Int),frz bs n 8 (.tup [.str a,.int .i64 i]) = .tup [.str a,.int .i64 i] := fun _ _ _ _ => rfl
 have h4 := Idx.four_len x
 have htk : x.four.take 4 = x.four := List.take_of_length_le (by omega)
 by_cases he : x.err namedB 4 = 0
 ·have e2 := fun m => f114n (u := u) x hok (err_RN he) m
  rw [he] at e1 ⊢
  generalize x.text = t at *
  rw [Idx.av_four] at e1 ⊢
  simp [h4,htk,e1,e2,hz,newVer]
 ·rw [if_neg he]
  generalize x.err namedB 4 = xe at *
  rw [Idx.av_four] at e1 ⊢
  simp [h4,htk,e1,hz,bne_true he,newVer]
end Go.Abs.Tz
set_option maxRecDepth 100000
set_option maxHeartbeats 8000000
namespace Go.Abs.Tz
open Go.Abs
variable {u : Nat}
attribute [local simp] exec aops astep wantedA aop evO setO setU getE getE_setE lget lget_lset aBin aInt aUn AV.cells newVar padd rd wr asElem single splice aStr adraw ascan Runs gets RV.get tupled frz_int frz_bool frz_str
theorem f28n (x : Idx) (hok : x.Ok) (hc : x.cnt < 1000000000000) (m : Mem) : cvl (C u) (.fn (.func 28) [] []) [.agg x.copy.four,.agg x.four] m = some (.bool true,m) := by
 have := f28 (u := u) x hok hc m
 rwa [Idx.av_four,Idx.av_four] at this
theorem f152 (p : Plc) (hok : p.Ok) (hw : p.wt < 1000000000000) (m : Mem) : cvl (C u) (.fn (.func 152) [] []) [p.copy.av,p.av] m = some (.bool true,m) := by
 refine call_runs (g := g152) (by rfl) (by rfl) (by rfl) ?_
 simp only [List.map_cons,List.map_nil,Plc.exp_av _ _ _ hok,Plc.exp_av _ _ _ (plc_copy_ok p hok),g152,c152]
 have hge := plcs_ge p
 let K : St -> Prop := fun st => getE st.env 2 = .lptr 2 0 0 /\ lget st.loc 2 = some (0,.cells [.str p.name,.list (capL p.ix) (Idx.avs (copies p.ix))]) /\ getE st.env 3 = .lptr 3 0 0 /\ lget st.loc 3 = some (0,.cells [.str p.name,.list p.c (Idx.avs p.ix)]) /\ st.mem = { blks := m.blks,touched := [] }
 refine Runs.seq' (M := K) (by rw [Plc.copy_av]; simp [K,Plc.av,newVer,Idx.avs_eq]) fun s1 ⟨h1,h2,h3,h4,h5⟩ => ?_
 have hcl : (Idx.avs (copies p.ix)).length = p.ix.length := by rw [avs_len,copies_len]
 refine Runs.seq' (M := K) (by simp [K,h1,h2,h3,h4,h5,hcl,avs_len]) fun s1 ⟨h1,h2,h3,h4,h5⟩ => ?_
 refine Runs.seq (M := K) ?_ fun s2 ⟨h1,h2,h3,h4,h5⟩ => by simp [h5]
 let I : Nat -> St -> Prop := fun i st => K st /\ getE st.env 5 = .int .i64 i
 refine Runs.seq' (M := I 0) (by simp [I,K,h1,h2,h3,h4,h5]) fun s4 hI => ?_
 refine Runs.block (Runs.loop (I := I) p.ix.length hI fun i st hi hst => ?_)
 obtain ⟨⟨h1,h2,h3,h4,h5⟩,q1⟩ := hst
 rcases Nat.lt_or_ge i p.ix.length with hlt | hge
 ·have hwi : IntKind.wrap .i64 ((i : Int) + 1) = (i : Int) + 1 := wrap_i64 (by omega) (by omega)
  have hm : p.ix[i] ∈ p.ix := List.getElem_mem hlt
  have e := fun m => f28n (u := u) p.ix[i] (hok.2.2 _ hm).1 (by have := Idx.cnt_mem hm; simp only [Plc.wt] at hw; omega) m
  have g1 := avs_get p.ix i hlt
  have g2 := avs_get (copies p.ix) i (by rw [copies_len]; exact hlt)
  rw [copies_get p.ix i hlt,Idx.av_four] at g2
  rw [Idx.av_four] at g1
  have l1 := Idx.four_len p.ix[i]
  have l2 := Idx.four_len (p.ix[i]).copy
  have t1 : (p.ix[i]).four.take 4 = (p.ix[i]).four := List.take_of_length_le (by omega)
  have t2 : (p.ix[i]).copy.four.take 4 = (p.ix[i]).copy.four := List.take_of_length_le (by omega)
  left
  refine ⟨hlt,?_⟩
  simp [-adraw,-ascan,adraw_nil,I,K,l152_0,h1,h2,h3,h4,h5,q1,hlt,hcl,avs_len,g1,g2,l1,l2,t1,t2,e,hwi]
 ·right
  have : i = p.ix.length := by omega
  subst this
  simp [K,l152_0,h1,h2,h3,h4,h5,q1,hcl,avs_len]
theorem copy_parts (y : Stp) : y.copy.kind = y.kind /\ y.copy.gate = y.gate /\ y.copy.name = y.name /\ y.copy.cp = capL y.pl /\ y.copy.pl = y.pl.map Plc.copy /\ y.copy.size = y.size.copy /\ y.copy.to = y.to.copy /\ y.copy.cb = capL y.body /\ y.copy.body = scopies y.body /\ y.copy.ce = capL y.els /\ y.copy.els = scopies y.els := by
 cases y; exact ⟨rfl,rfl,rfl,rfl,rfl,rfl,rfl,rfl,rfl,rfl,rfl⟩
theorem scopies_get (l : List Stp) (i : Nat) (h : i < l.length) : (scopies l)[i]'(by rw [scopies_len]; exact h) = l[i].copy := by simp [scopies_eq]
theorem f80 (l : List Stp) : ∀ (c1 c : Cap),okCap c1 -> okCap c -> Stp.Oks l -> Stp.wts l < 1000000000 -> ∀ m,cvl (C u) (.fn (.func 80) [] []) [.list c1 (Stp.avs (scopies l)),.list c (Stp.avs l)] m = some (.bool true,m) := by
 refine Stp.lists (P := fun l => ∀ (c1 c : Cap),okCap c1 -> okCap c -> Stp.Oks l -> Stp.wts l < 1000000000 -> ∀ m,cvl (C u) (.fn (.func 80) [] []) [.list c1 (Stp.avs (scopies l)),.list c (Stp.avs l)] m = some (.bool true,m)) (fun l ih c1 c hc1 hc hok hw m => ?_) l
 refine call_runs (g := g80) (by rfl) (by rfl) (by rfl) ?_
 simp only [List.map_cons,List.map_nil,exp_stps hc hok,exp_stps hc1 (scopies_okk l hok),g80,c80]
 have hll := Stp.wts_len l
 have hcl : (Stp.avs (scopies l)).length = l.length := by rw [stps_len,scopies_len]
 let K : St -> Prop := fun st => getE st.env 0 = .list c1 (Stp.avs (scopies l)) /\ getE st.env 1 = .list c (Stp.avs l) /\ st.mem = { blks := m.blks,touched := [] }
 refine Runs.seq' (M := K) (by simp [K]) fun s1 ⟨h1,h2,h3⟩ => ?_
 refine Runs.seq' (M := K) (by simp [K,h1,h2,h3,hcl,stps_len]) fun s1 ⟨h1,h2,h3⟩ => ?_
 refine Runs.seq (M := K) ?_ fun s2 ⟨h1,h2,h3⟩ => by simp [h3]
 let J : Nat -> St -> Prop := fun i st => K st /\ getE st.env 5 = .int .i64 i
 refine Runs.seq' (M := J 0) (by simp [J,K,h1,h2,h3]) fun s4 hI => ?_
 refine Runs.block (Runs.upto (I := J) l.length hI (fun i st hlt hst => ?_) (fun st hst => ?_))
 ·obtain ⟨⟨h1,h2,h3⟩,q1⟩ := hst
  have hwi : IntKind.wrap .i64 ((i : Int) + 1) = (i : Int) + 1 := wrap_i64 (by omega) (by omega)
  have g1 := stp_get l i hlt
  have g2 := stp_get (scopies l) i (by rw [scopies_len]; exact hlt)
  rw [scopies_get l i hlt] at g2
  have hm : l[i] ∈ l := List.getElem_mem hlt
  have hoki := Stp.oks_mem hok _ hm
  obtain ⟨ih1,ih2⟩ := ih _ hm
  have hwm := Stp.wt_mem hm
  have hob := Stp.oks_body hoki
  have hoc := Stp.caps_ok hoki
  have hge := Stp.wt_ge l[i]
  generalize l[i] = y at *
  obtain ⟨o1,o2,o3,o4⟩ := x0_mk hoki
  have hst : plcsW y.pl + y.size.cnt + y.to.cnt <= y.wt := by
   obtain ⟨k,g,nm,cp,pl,size,to,cb,body,ce,els⟩ := y
   simp only [Stp.wt,Stp.pl,Stp.size,Stp.to]; omega
  have es := fun m => f28n (u := u) y.size o1 (by omega) m
  have et := fun m => f28n (u := u) y.to o2 (by omega) m
  have eb := fun m => ih1 (capL y.body) y.cb (capL_ok _) hoc.1 hob.1 (by omega) m
  have ee := fun m => ih2 (capL y.els) y.ce (capL_ok _) hoc.2 hob.2 (by omega) m
  obtain ⟨p1,p2,p3,p4,p5,p6,p7,p8,p9,p10,p11⟩ := copy_parts y
  have k0 := cell0 y
  have k1 := cell1 y
  have k2 := cell2 y
  have k3 := cell3 y
  have k4 := cell4 y
  have k8 := cell8 y
  have k12 := cell12 y
  have k13 := cell13 y
  have kt := cells14 y
  have kl := Stp.cells_len y
  have j0 := cell0 y.copy
  have j1 := cell1 y.copy
  have j2 := cell2 y.copy
  have j3 := cell3 y.copy
  have j4 := cell4 y.copy
  have j8 := cell8 y.copy
  have j12 := cell12 y.copy
  have j13 := cell13 y.copy
  have jt := cells14 y.copy
  have jl := Stp.cells_len y.copy
  rw [p1] at j0
  rw [p2] at j1
  rw [p3] at j2
  rw [p4,p5,List.map_map] at j3
  rw [p6] at j4
  rw [p7] at j8
  rw [p8,p9] at j12
  rw [p10,p11] at j13
  simp only [Stp.av] at g1 g2
  refine Runs.seq' (M := J i) (by simp [J,K,h1,h2,h3,q1,hlt,hcl]) fun s5 ⟨⟨h1,h2,h3⟩,q1⟩ => ?_
  refine Runs.seq (M := J i) ?_ fun s6 ⟨⟨h1,h2,h3⟩,q1⟩ => by simp [J,K,h1,h2,h3,q1,hwi]
  refine Runs.block ?_
  let J2 : St -> Prop := fun st => J i st /\ (∃ v,getE st.env 6 = .lptr 6 v 0 /\ lget st.loc 6 = some (v,.cells y.copy.cells)) /\ ∃ v,getE st.env 7 = .lptr 7 v 0 /\ lget st.loc 7 = some (v,.cells y.cells)
  refine Runs.seq' (M := J2) (by simp [J2,J,K,h1,h2,h3,q1,hlt,hcl,stps_len,g1,g2,kl,kt,jl,jt,chkLoad,chkNew,isSt,eqRd,AV.beqs_refl]) fun s5 ⟨⟨⟨h1,h2,h3⟩,q1⟩,⟨v6,z1,z2⟩,v7,z3,z4⟩ => ?_
  refine Runs.seq' (M := J2) (by simp [J2,J,K,h1,h2,h3,q1,z1,z2,z3,z4,kl,jl,k0,k1,k2,k3,k4,k8,k12,k13,j0,j1,j2,j3,j4,j8,j12,j13,es,et,eb,ee]) fun s5 ⟨⟨⟨h1,h2,h3⟩,q1⟩,⟨v6,z1,z2⟩,v7,z3,z4⟩ => ?_
  have hplen := plcsW_len y.pl
  let I2 : Nat -> St -> Prop := fun k st => J2 st /\ getE st.env 8 = .int .i64 k
  refine Runs.seq' (M := I2 0) (by simp [I2,J2,J,K,h1,h2,h3,q1,z1,z2,z3,z4]) fun s6 hI => ?_
  refine Runs.block (Runs.loop (I := I2) y.pl.length hI fun k st hk hst => ?_)
  obtain ⟨⟨⟨⟨h1,h2,h3⟩,q1⟩,⟨v6,z1,z2⟩,v7,z3,z4⟩,z5⟩ := hst
  rcases Nat.lt_or_ge k y.pl.length with hlt2 | hge2
  ·have hwk : IntKind.wrap .i64 ((k : Int) + 1) = (k : Int) + 1 := wrap_i64 (by omega) (by omega)
   have hpm : y.pl[k] ∈ y.pl := List.getElem_mem hlt2
   have e152 := fun m => f152 (u := u) y.pl[k] (o4 _ hpm) (by have := Plc.wt_mem hpm; omega) m
   rw [Plc.copy_av] at e152
   have hpa : y.pl[k].av = .agg [.str y.pl[k].name,.list y.pl[k].c (Idx.avs y.pl[k].ix)] := by simp [Plc.av,Idx.avs_eq]
   rw [hpa] at e152
   left
   refine ⟨hlt2,?_⟩
   simp [-adraw,-ascan,adraw_nil,I2,J2,J,K,l80_0,h1,h2,h3,q1,z1,z2,z3,z4,z5,kl,jl,k3,j3,hlt2,Plc.copy_av,hpa,e152,hwk]
  ·right
   have : k = y.pl.length := by omega
   subst this
   simp [J,K,l80_0,h1,h2,h3,q1,z1,z2,z3,z4,z5,kl,jl,k3,j3]
 ·obtain ⟨⟨h1,h2,h3⟩,q1⟩ := hst
  simp [K,l80_1,h1,h2,h3,q1,hcl]
theorem f27 (c1 cps : Cap) (hc1 : okCap c1) (hcps : okCap cps) (ps : List Prc) (hps : ∀ x ∈ ps,x.Ok) (hpw : prcsW ps < 1000000000) (m : Mem) :
  cvl (C u) (.fn (.func 27) [] []) [prgAV c1 (pcopies ps),prgAV cps ps] m = some (.bool true,m) := by
 refine call_runs (g := g27) (by rfl) (by rfl) (by rfl) ?_
 simp only [List.map_cons,List.map_nil,exp_prg hcps hps,exp_prg hc1 (pcopies_ok ps hps)]
 simp only [g27,c27,prgAV,pcopies,List.map_map]
 have hlen := prcsW_len ps
 let K : St -> Prop := fun st => getE st.env 2 = .lptr 2 0 0 /\ lget st.loc 2 = some (0,.cells [.list c1 (ps.map (Prc.av ∘ Prc.copy))]) /\ getE st.env 3 = .lptr 3 0 0 /\ lget st.loc 3 = some (0,.cells [.list cps (ps.map Prc.av)]) /\ st.mem = { blks := m.blks,touched := [] }
 refine Runs.seq' (M := K) (by simp [K,newVer]) fun s1 ⟨h1,h2,h3,h4,h5⟩ => ?_
 refine Runs.seq' (M := K) (by simp [K,h1,h2,h3,h4,h5]) fun s1 ⟨h1,h2,h3,h4,h5⟩ => ?_
 refine Runs.seq (M := K) ?_ fun s2 ⟨h1,h2,h3,h4,h5⟩ => by simp [h5]
 let J : Nat -> St -> Prop := fun i st => K st /\ getE st.env 5 = .int .i64 i
 refine Runs.seq' (M := J 0) (by simp [J,K,h1,h2,h3,h4,h5]) fun s4 hI => ?_
 refine Runs.block (Runs.upto (I := J) ps.length hI (fun i st hlt hst => ?_) (fun st hst => ?_))
 ·obtain ⟨⟨h1,h2,h3,h4,h5⟩,q1⟩ := hst
  have hwi : IntKind.wrap .i64 ((i : Int) + 1) = (i : Int) + 1 := wrap_i64 (by omega) (by omega)
  have hm : ps[i] ∈ ps := List.getElem_mem hlt
  have hok := hps _ hm
  have hwm := Prc.wt_mem hm
  simp only [Prc.wt] at hwm
  have e80 := fun m => f80 (u := u) ps[i].body (capL ps[i].body) ps[i].cb (capL_ok _) hok.2.2.2.1 hok.2.2.2.2.1 (by omega) m
  refine Runs.seq' (M := J i) (by simp [J,K,h1,h2,h3,h4,h5,q1,hlt]) fun s5 ⟨⟨h1,h2,h3,h4,h5⟩,q1⟩ => ?_
  refine Runs.seq (M := J i) ?_ fun s6 ⟨⟨h1,h2,h3,h4,h5⟩,q1⟩ => by simp [J,K,h1,h2,h3,h4,h5,q1,hwi]
  refine Runs.block ?_
  let P : Cap -> List Stp -> Cap -> AV := fun _ _ _ => .junk
  let J2 : St -> Prop := fun st => J i st /\ (∃ v,getE st.env 6 = .lptr 6 v 0 /\ lget st.loc 6 = some (v,.cells [.str ps[i].name,.list ps[i].cp (ps[i].pars.map Par.av),.list (capL ps[i].body) (Stp.avs (scopies ps[i].body))])) /\ ∃ v,getE st.env 7 = .lptr 7 v 0 /\ lget st.loc 7 = some (v,.cells [.str ps[i].name,.list ps[i].cp (ps[i].pars.map Par.av),.list ps[i].cb (Stp.avs ps[i].body)])
  refine Runs.seq' (M := J2) (by simp [J2,J,K,h1,h2,h3,h4,h5,q1,hlt,Prc.av,Prc.copy,chkLoad,chkNew,isSt,eqRd,AV.beqs_refl]) fun s5 ⟨⟨⟨h1,h2,h3,h4,h5⟩,q1⟩,⟨v6,z1,z2⟩,v7,z3,z4⟩ => ?_
  refine Runs.seq' (M := J2) (by simp [J2,J,K,h1,h2,h3,h4,h5,q1,z1,z2,z3,z4,e80]) fun s5 ⟨⟨⟨h1,h2,h3,h4,h5⟩,q1⟩,⟨v6,z1,z2⟩,v7,z3,z4⟩ => ?_
  let I2 : Nat -> St -> Prop := fun k st => J2 st /\ getE st.env 8 = .int .i64 k
  refine Runs.seq' (M := I2 0) (by simp [I2,J2,J,K,h1,h2,h3,h4,h5,q1,z1,z2,z3,z4]) fun s6 hI => ?_
  refine Runs.block (Runs.loop (I := I2) ps[i].pars.length hI fun k st hk hst => ?_)
  obtain ⟨⟨⟨⟨h1,h2,h3,h4,h5⟩,q1⟩,⟨v6,z1,z2⟩,v7,z3,z4⟩,z5⟩ := hst
  rcases Nat.lt_or_ge k ps[i].pars.length with hlt2 | hge2
  ·have hwk : IntKind.wrap .i64 ((k : Int) + 1) = (k : Int) + 1 := wrap_i64 (by omega) (by omega)
   left
   refine ⟨hlt2,?_⟩
   simp [-adraw,-ascan,adraw_nil,I2,J2,J,K,l27_0,h1,h2,h3,h4,h5,q1,z1,z2,z3,z4,z5,hlt2,Par.av,eqCells,hwk]
  ·right
   have : k = ps[i].pars.length := by omega
   subst this
   simp [J,K,l27_0,h1,h2,h3,h4,h5,q1,z1,z2,z3,z4,z5]
 ·obtain ⟨⟨h1,h2,h3,h4,h5⟩,q1⟩ := hst
  simp [K,l27_1,h1,h2,h3,h4,h5,q1]
end Go.Abs.Tz
set_option maxRecDepth 100000
set_option maxHeartbeats 4000000
namespace Go.Abs.Tz
open Go.Abs
variable {u : Nat}
attribute [local simp] exec aops astep wantedA aop evO setO setU getE getE_setE lget lget_lset aBin aInt aUn AV.cells newVar padd rd wr asElem single splice aStr adraw ascan Runs gets RV.get tupled frz_int frz_bool
theorem f17 (cps : Cap) (hcps : okCap cps) (ps : List Prc) (hps : ∀ x ∈ ps,x.Ok) (hpw : prcsW ps < 1000000000) (m : Mem) : ∃ b,cvl (C u) (.fn (.func 17) [] []) [prgAV cps ps] m = some (.bool b,m) := by
 have hlen := prcsW_len ps
 have hnl : ∀ M : Mem,M.nol = nol := fun _ => rfl
 let n := m.blks.length
 have hx : Runs (C u).gl (cvl (C u)) g17.code { env := [prgAV cps ps].map (exp m.blks.length false),loc := [],mem := { blks := m.blks,touched := [] } } fun r =>
   (∀ i,r.1 ≠ .exit i) /\ (∃ bs,r.2.mem = { blks := m.blks ++ bs,touched := [] }) /\ ∃ b,getE r.2.env 2 = .bool b := by
  simp only [List.map_cons,List.map_nil,exp_prg hcps hps]
  simp only [g17,c17,prgAV]
  let K : St -> Prop := fun st => getE st.env 1 = .lptr 1 0 0 /\ lget st.loc 1 = some (0,.cells [.list cps (ps.map Prc.av)])
  refine Runs.seq' (M := fun st => K st /\ lget st.loc 3 = none /\ lget st.loc 4 = none /\ lget st.loc 5 = none /\ st.mem = { blks := m.blks,touched := [] }) (by simp [K,newVer]) fun s1 ⟨⟨h1,h2⟩,p3,p4,p5,h3⟩ => ?_
  have hcap : gcap m.blks.length = [.gptr m.blks.length 0,.gptr (m.blks.length + 1) 0,.gptr (m.blks.length + 2) 0,.gptr (m.blks.length + 3) 0] := rfl
  let K2 : St -> Prop := fun st => K st /\ getE st.env 3 = .gptr m.blks.length 0 /\ getE st.env 4 = .gptr (m.blks.length + 1) 0 /\ getE st.env 5 = .gptr (m.blks.length + 2) 0
  refine Runs.seq' (M := fun st => K2 st /\ st.mem = { blks := m.blks ++ [.cells [.int .i64 0],.cells [.int .i64 0],.cells [.bool (decide ((20 : Int) < (ps.length : Int)))]],touched := [] }) (by
   simp [K2,K,h1,h2,h3,p3,p4,p5,newVer,chkLoad,chkNew,isSt,eqRd,AV.beqs_refl,pubs,pub1,hnl,nol,Mem.push]) fun s1 ⟨⟨⟨h1,h2⟩,h4,h5,h6⟩,h3⟩ => ?_
  generalize decide ((20 : Int) < (ps.length : Int)) = z0 at *
  let K3 : St -> Prop := fun st => K2 st /\ getE st.env 6 = .gptr (m.blks.length + 3) 0
  let GM : Int -> Int -> Bool -> St -> Prop := fun a b z st => st.mem = { blks := gM m.blks a b z,touched := [] }
  refine Runs.seq' (M := fun st => K3 st /\ st.mem = { blks := m.blks ++ [.cells [.int .i64 0],.cells [.int .i64 0],.cells [.bool z0],.cells [.nilfn]],touched := [] }) (by simp [K3,K2,K,h1,h2,h3,h4,h5,h6,hnl,nol,Mem.push]) fun s1 ⟨⟨⟨⟨h1,h2⟩,h4,h5,h6⟩,h7⟩,h3⟩ => ?_
  refine Runs.seq' (M := fun st => K3 st /\ GM 0 0 z0 st) (by
   simp [K3,K2,K,GM,gM,gcap,h1,h2,h3,h4,h5,h6,h7,hnl,nol,nols,Mem.put,los,lo,Fn.below]) fun s1 ⟨⟨⟨⟨h1,h2⟩,h4,h5,h6⟩,h7⟩,h3⟩ => ?_
  simp only [GM] at h3
  refine Runs.seq (M := fun st => K3 st /\ ∃ a b z,GM a b z st) ?_ fun s1 ⟨⟨⟨⟨h1,h2⟩,h4,h5,h6⟩,h7⟩,a,b,z,h3⟩ => ?_
  ·let J : Nat -> St -> Prop := fun i st => K3 st /\ getE st.env 15 = .list cps (ps.map Prc.av) /\ getE st.env 16 = .int .i64 ps.length /\ getE st.env 17 = .int .i64 i
   let I : Nat -> St -> Prop := fun i st => J i st /\ ∃ a b z,GM a b z st
   refine Runs.seq' (M := fun st => J 0 st /\ GM 0 0 z0 st) (by simp [J,K3,K2,K,GM,h1,h2,h3,h4,h5,h6,h7]) fun s4 ⟨a1,a2⟩ => ?_
   refine Runs.block (Runs.upto (I := I) ps.length ⟨a1,0,0,z0,a2⟩ (fun i st hlt hst => ?_) (fun st hst => ?_))
   ·obtain ⟨⟨⟨⟨⟨h1,h2⟩,h4,h5,h6⟩,h7⟩,q1,q2,q3⟩,a,b,z,h3⟩ := hst
    simp only [GM] at h3
    have hwi : IntKind.wrap .i64 ((i : Int) + 1) = (i : Int) + 1 := wrap_i64 (by omega) (by omega)
    have hm : ps[i] ∈ ps := List.getElem_mem hlt
    have hok := hps _ hm
    have hwm := Prc.wt_mem hm
    simp only [Prc.wt] at hwm
    have g2 := fun a b z => gM2 m.blks a b z []
    have g3 := fun a b z => gM3 m.blks a b z []
    have t2 := fun a b z x => gS2 m.blks a b z [] x
    simp only [List.append_nil] at g2 g3 t2
    let C8 : St -> Prop := fun st => ∃ v,getE st.env 8 = .lptr 8 v 0 /\ lget st.loc 8 = some (v,.cells [.str ps[i].name,.list ps[i].cp (ps[i].pars.map Par.av),.list ps[i].cb (Stp.avs ps[i].body)])
    refine Runs.seq' (M := fun st => J i st /\ GM a b z st /\ getE st.env 18 = .bool true) (by simp [J,K3,K2,K,GM,h1,h2,h3,h4,h5,h6,h7,q1,q2,q3,hlt]) fun s5 ⟨⟨⟨⟨⟨h1,h2⟩,h4,h5,h6⟩,h7⟩,q1,q2,q3⟩,h3,q4⟩ => ?_
    simp only [GM] at h3
    refine Runs.seq' (M := fun st => J i st /\ GM a b z st) (by simp [J,K3,K2,K,GM,h1,h2,h3,h4,h5,h6,h7,q1,q2,q3,q4]) fun s5 ⟨⟨⟨⟨⟨h1,h2⟩,h4,h5,h6⟩,h7⟩,q1,q2,q3⟩,h3⟩ => ?_
    simp only [GM] at h3
    refine Runs.seq (M := fun st => J i st /\ ∃ a b z,GM a b z st) ?_ fun s6 ⟨⟨⟨⟨⟨h1,h2⟩,h4,h5,h6⟩,h7⟩,q1,q2,q3⟩,a,b,z,h3⟩ => by
     simp only [GM] at h3
     exact Runs.fin (M := fun st => J (i + 1) st /\ GM a b z st) .normal (by simp [J,K3,K2,K,GM,h1,h2,h3,h4,h5,h6,h7,q1,q2,q3,hwi]) fun s' ⟨d1,d2⟩ => .inl ⟨rfl,d1,a,b,z,d2⟩
    refine Runs.block ?_
    refine Runs.seq' (M := fun st => (J i st /\ C8 st) /\ GM a b z st) (by simp [C8,J,K3,K2,K,GM,h1,h2,h3,h4,h5,h6,h7,q1,q2,q3,hlt,Prc.av]) fun s5 ⟨⟨⟨⟨⟨⟨h1,h2⟩,h4,h5,h6⟩,h7⟩,q1,q2,q3⟩,v8,z1,z2⟩,h3⟩ => ?_
    simp only [GM] at h3
    refine Runs.seq' (M := fun st => (J i st /\ C8 st) /\ ∃ z,GM a b z st) (by
     cases z with
     | true => exact ex_z true (by simp [C8,J,K3,K2,K,GM,h1,h2,h3,h4,h5,h6,h7,q1,q2,q3,z1,z2,g2,t2,Mem.put,hnl,nol,los,lo])
     | false =>
     by_cases c1 : (20 : Int) < (ps[i].pars.length : Int)
     ·exact ex_z true (by simp [C8,J,K3,K2,K,GM,h1,h2,h3,h4,h5,h6,h7,q1,q2,q3,z1,z2,g2,t2,Mem.put,hnl,nol,los,lo,c1])
     ·exact ex_z (decide ((40 : Int) < (ps[i].name.length : Int))) (by simp [C8,J,K3,K2,K,GM,h1,h2,h3,h4,h5,h6,h7,q1,q2,q3,z1,z2,g2,t2,Mem.put,hnl,nol,los,lo,c1])) fun s5 ⟨⟨⟨⟨⟨⟨h1,h2⟩,h4,h5,h6⟩,h7⟩,q1,q2,q3⟩,v8,z1,z2⟩,z,h3⟩ => ?_
    simp only [GM] at h3
    obtain ⟨a2,b2,z2',w1⟩ := f93 (u := u) m.blks ps[i].body ps[i].cb hok.2.2.2.1 hok.2.2.2.2.1 (by omega) a b z [] []
    simp only [List.append_nil] at w1
    refine Runs.fin (M := fun st => J i st /\ GM a2 b2 z2' st) .normal (by simp [J,K3,K2,K,GM,h1,h2,h3,h4,h5,h6,h7,q1,q2,q3,z1,z2,g3,w1]) fun s' ⟨d1,d2⟩ => ?_
    exact .inr ⟨by simp,.inl ⟨rfl,d1,a2,b2,z2',d2⟩⟩
   ·obtain ⟨⟨⟨⟨⟨h1,h2⟩,h4,h5,h6⟩,h7⟩,q1,q2,q3⟩,a,b,z,h3⟩ := hst
    simp only [GM] at h3
    refine Runs.fin (M := fun st => K3 st /\ GM a b z st) (.exit 0) (by simp [l17_0,K3,K2,K,GM,h1,h2,h3,h4,h5,h6,h7,q1,q2,q3]) fun s' ⟨d1,d2⟩ => ?_
    exact ⟨by simp,.inl ⟨rfl,.inl ⟨rfl,d1,a,b,z,d2⟩⟩⟩
  ·simp only [GM] at h3
   have g2 := fun a b z => gM2 m.blks a b z []
   simp only [List.append_nil] at g2
   refine Runs.fin (M := fun st => GM a b z st /\ getE st.env 2 = .bool z) .ret (by simp [GM,h1,h2,h3,h4,h5,h6,h7,g2]) fun s' ⟨d1,d2⟩ => ?_
   exact ⟨by simp,⟨_,d1⟩,z,d2⟩
 obtain ⟨r,h1,h2,h3,b,h4⟩ := hx
 exact ⟨b,call_runs (g := g17) (by rfl) (by rfl) (by rfl) ⟨r,h1,h2,h3,[.bool b],by simp [g17,h4],by simp⟩⟩
theorem cnts_copies (l : List Idx) : Idx.cnts (copies l) = Idx.cnts l := by
 induction l with
 | nil => rfl
 | cons a l ih => simp only [copies,Idx.cnts,copy_cnt,ih]
theorem plcsW_copy (l : List Plc) : plcsW (l.map Plc.copy) = plcsW l := by
 induction l with
 | nil => rfl
 | cons a l ih => simp only [List.map_cons,plcsW,Plc.wt,Plc.copy,cnts_copies,ih]
theorem wts_copy (l : List Stp) : Stp.wts (scopies l) = Stp.wts l := by
 refine Stp.lists (P := fun l => Stp.wts (scopies l) = Stp.wts l) (fun l ih => ?_) l
 induction l with
 | nil => rfl
 | cons s l ihl =>
  have h1 := ihl (fun y hy => ih y (by simp [hy]))
  have hs := ih s (by simp)
  obtain ⟨k,g,nm,cp,pl,size,to,cb,body,ce,els⟩ := s
  simp only [Stp.body,Stp.els] at hs
  simp only [scopies,Stp.wts,Stp.copy,Stp.wt,plcsW_copy,copy_cnt,hs.1,hs.2,h1]
theorem prcsW_copy (ps : List Prc) : prcsW (pcopies ps) = prcsW ps := by
 induction ps with
 | nil => rfl
 | cons a l ih =>
  simp only [pcopies] at ih
  simp only [pcopies,List.map_cons,prcsW,Prc.wt,Prc.copy,wts_copy,ih]
theorem f3 (cps : Cap) (hcps : okCap cps) (ps : List Prc) (hps : ∀ x ∈ ps,x.Ok) (hpw : prcsW ps < 1000000000) (x : Idx) (hok : x.Ok) (hstr : x.Str) (hcnt : x.cnt < 100000000000) :
  cvl (C u) (.fn (.func 3) [] []) [prgAV cps ps,x.av] { blks := [],touched := [] } = some (.bool true,{ blks := [],touched := [] }) := by
 obtain ⟨b,hb⟩ := f17 (u := u) cps hcps ps hps hpw { blks := [],touched := [] }
 obtain ⟨b2,hb2⟩ := f18 (u := u) x hok hcnt { blks := [],touched := [] }
 have e20 := f20 (u := u) cps hcps ps hps hpw { blks := [],touched := [] }
 have e21 := f21 (u := u) x hok (by omega) { blks := [],touched := [] }
 have e22 := f22 (u := u) cps hcps ps hps (by omega) { blks := [],touched := [] }
 have e23 : checkE ps = 0 -> _ := fun h => f23 (u := u) cps hcps ps hps hpw (checkE_R h).1 (checkE_R h).2 { blks := [],touched := [] }
 have e24 := f24 (u := u) x hok (by omega) { blks := [],touched := [] }
 have hpwc : prcsW (pcopies ps) < 1000000000 := by rw [prcsW_copy]; exact hpw
 have e25 := f25 (u := u) (capL ps) (capL_ok ps) (pcopies ps) (pcopies_ok ps hps) hpwc { blks := [],touched := [] }
 have e26 := f26 (u := u) x.copy (copy_ok x) (idx_copy_str x hstr) (by rw [copy_cnt]; omega) { blks := [],touched := [] }
 have e27 := f27 (u := u) (capL ps) cps (capL_ok ps) hcps ps hps hpw { blks := [],touched := [] }
 have e28 := f28 (u := u) x hok (by omega) { blks := [],touched := [] }
 have e19 := f19 (u := u)
 have hsh : showT x.copy = showT x := by simp only [showT,Idx.copy_err,Idx.copy_text]
 have hpr : printT (pcopies ps) = printT ps := by simp only [printT,checkE_copy,prcsT_copy]
 rw [hsh,Idx.copy_err] at e26
 rw [hpr,checkE_copy] at e25
 refine call_runs (g := g3) (by rfl) (by rfl) (by rfl) ?_
 simp only [List.map_cons,List.map_nil,Idx.exp_av _ _ _ hok,exp_prg hcps hps,g3,c3]
 simp only [Idx.av_four] at *
 have h4 := Idx.four_len x
 have htk : x.four.take 4 = x.four := List.take_of_length_le (by omega)
 have h4' := Idx.four_len x.copy
 have htk' : x.copy.four.take 4 = x.copy.four := List.take_of_length_le (by omega)
 simp only [prgAV] at *
 generalize showT x = sh at *
 generalize x.err namedB 4 = xe at *
 let K : St -> Prop := fun st => getE st.env 2 = .lptr 2 0 0 /\ lget st.loc 2 = some (0,.cells [.list cps (ps.map Prc.av)]) /\ getE st.env 3 = .lptr 3 0 0 /\ lget st.loc 3 = some (0,.cells x.four) /\ st.mem = { blks := [],touched := [] }
 refine Runs.seq' (M := K) (by simp [K,newVer,h4]) fun s1 ⟨h1,h2,h3,h3',h5⟩ => ?_
 by_cases hg : b = true \/ b2 = true
 ·refine Runs.seq (M := fun _ => False) ?_ fun _ h => h.elim
  cases b with
  | true => simp [h1,h2,h3,h3',h5,hb,e19]
  | false =>
   have : b2 = true := by simpa using hg
   subst this
   simp [h1,h2,h3,h3',h5,hb,hb2,h4,htk,e19]
 have hg1 : b = false := by cases b <;> simp_all
 have hg2 : b2 = false := by cases b2 <;> simp_all
 subst hg1 hg2
 refine Runs.seq' (M := K) (by simp [K,h1,h2,h3,h3',h5,hb,hb2,h4,htk]) fun s1 ⟨h1,h2,h3,h3',h5⟩ => ?_
 let K2 : St -> Prop := fun st => K st /\ (∃ v,getE st.env 5 = .lptr 5 v 0 /\ lget st.loc 5 = some (v,.cells [.list (capL ps) ((pcopies ps).map Prc.av)])) /\ ∃ v,getE st.env 6 = .lptr 6 v 0 /\ lget st.loc 6 = some (v,.cells x.copy.four)
 refine Runs.seq' (M := K2) (by simp [K2,K,h1,h2,h3,h3',h5,h4,htk,h4',e20,e21,chkLoad,chkNew,isSt]) fun s1 ⟨⟨h1,h2,h3,h3',h5⟩,⟨v5,q1,q2⟩,v6,q3,q4⟩ => ?_
 refine Runs.seq' (M := fun st => K2 st /\ getE st.env 7 = .str [] /\ getE st.env 8 = .int .i64 (checkE ps)) (by simp [K2,K,h1,h2,h3,h3',h5,q1,q2,q3,q4,e22]) fun s1 ⟨⟨⟨h1,h2,h3,h3',h5⟩,⟨v5,q1,q2⟩,v6,q3,q4⟩,q5,q6⟩ => ?_
 refine Runs.seq' (M := fun st => K2 st /\ getE st.env 7 = .str (printT ps) /\ getE st.env 8 = .int .i64 (checkE ps)) (by
  by_cases hc : checkE ps = 0
  ·have e := e23 hc
   have hp : printT ps = prcsT ps := by simp [printT,hc]
   rw [hp,hc]
   rw [hc] at q6
   simp [K2,K,h1,h2,h3,h3',h5,q1,q2,q3,q4,q5,q6,e]
  ·have hp : printT ps = [] := by simp [printT,hc]
   rw [hp]
   simp [K2,K,h1,h2,h3,h3',h5,q1,q2,q3,q4,q5,q6,ne_true hc]) fun s1 ⟨⟨⟨h1,h2,h3,h3',h5⟩,⟨v5,q1,q2⟩,v6,q3,q4⟩,q5,q6⟩ => ?_
 generalize printT ps = pt at *
 generalize checkE ps = ce at *
 let K3 : St -> Prop := fun st => K2 st /\ getE st.env 7 = .str pt /\ getE st.env 8 = .int .i64 ce /\ getE st.env 9 = .str sh /\ getE st.env 10 = .int .i64 xe
 refine Runs.seq' (M := K3) (by simp [K3,K2,K,h1,h2,h3,h3',h5,q1,q2,q3,q4,q5,q6,h4,htk,e24]) fun s1 ⟨⟨⟨h1,h2,h3,h3',h5⟩,⟨v5,q1,q2⟩,v6,q3,q4⟩,q5,q6,q7,q8⟩ => ?_
 refine Runs.seq' (M := fun st => K3 st /\ getE st.env 11 = .str pt /\ getE st.env 12 = .int .i64 ce) (by simp [K3,K2,K,h1,h2,h3,h3',h5,q1,q2,q3,q4,q5,q6,q7,q8,e25]) fun s1 ⟨⟨⟨⟨h1,h2,h3,h3',h5⟩,⟨v5,q1,q2⟩,v6,q3,q4⟩,q5,q6,q7,q8⟩,q9,q10⟩ => ?_
 refine Runs.seq' (M := fun st => K3 st /\ getE st.env 11 = .str pt /\ getE st.env 12 = .int .i64 ce /\ getE st.env 13 = .str sh /\ getE st.env 14 = .int .i64 xe) (by simp [K3,K2,K,h1,h2,h3,h3',h5,q1,q2,q3,q4,q5,q6,q7,q8,q9,q10,h4',htk',e26]) fun s1 ⟨⟨⟨⟨h1,h2,h3,h3',h5⟩,⟨v5,q1,q2⟩,v6,q3,q4⟩,q5,q6,q7,q8⟩,q9,q10,q11,q12⟩ => ?_
 simp [h1,h2,h3,h3',h5,q1,q2,q3,q4,q5,q6,q7,q8,q9,q10,q11,q12,h4,htk,h4',htk',e27,e28,e19]
end Go.Abs.Tz
