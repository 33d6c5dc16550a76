/- A text of this proof. -/
import Derived.Test.YtiigojkfojnedaaGreatDoorPHi
import Derived.Test.YtiigojkfojnedaaGreatDoorPHe
set_option linter.unusedVariables false
set_option linter.unusedSimpArgs false
set_option maxRecDepth 100000
set_option maxHeartbeats 8000000
namespace Go.Abs.Tz
open Go.Abs
variable {u : Nat}
attribute [local simp] exec aops astep wantedA aop evO setO setU getE getE_setE lget lget_lset aBin aInt aUn AV.cells newVar padd rd wr asElem single splice aStr adraw ascan Runs gets RV.get tupled frz_int frz_bool
theorem cell0 (x : Stp) : x.cells.take 1 = [.int .i64 x.kind] := by cases x; rfl
theorem cell2 (x : Stp) : (x.cells.drop 2).take 1 = [.str x.name] := by cases x; rfl
theorem cell12 (x : Stp) : (x.cells.drop 12).take 1 = [.list x.cb (Stp.avs x.body)] := by
 obtain ⟨k,g,nm,cp,pl,⟨k1,n1,s1,c1,l1⟩,⟨k2,n2,s2,c2,l2⟩,cb,body,ce,els⟩ := x; rfl
theorem cell13 (x : Stp) : (x.cells.drop 13).take 1 = [.list x.ce (Stp.avs x.els)] := by
 obtain ⟨k,g,nm,cp,pl,⟨k1,n1,s1,c1,l1⟩,⟨k2,n2,s2,c2,l2⟩,cb,body,ce,els⟩ := x; rfl
theorem cells14 (x : Stp) : x.cells.take 14 = x.cells := List.take_of_length_le (by have := Stp.cells_len x; omega)
theorem stepE_new {ps : List Prc} {own : Nat} {L : Look} {x : Stp} (h : stepE ps own L x = 0) (hk : x.kind = 2 \/ x.kind = 4 \/ x.kind = 8) : L x.name = .none := by
 obtain ⟨k,g,nm,cp,pl,size,to,cb,body,ce,els⟩ := x
 simp only [Stp.kind,Stp.name] at hk ⊢
 have : newE L nm = 0 := by
  rcases hk with rfl | rfl | rfl
  all_goals
   simp only [stepE] at h
   simp at h
   split at h
   ·assumption
   ·rename_i hn; exact absurd h hn
 exact (newE_zero this).2
theorem stepE_look {ps : List Prc} {own : Nat} {L : Look} {x : Stp} (h : stepE ps own L x = 0) (hk : x.kind = 5) : L x.name = .none \/ L x.name = .bit := by
 obtain ⟨k,g,nm,cp,pl,size,to,cb,body,ce,els⟩ := x
 simp only [Stp.kind,Stp.name] at hk ⊢
 subst hk
 simp only [stepE] at h
 simp at h
 split at h
 ·split at h
  ·split at h
   ·rename_i hbit; exact .inr hbit
   ·exact .inl (newE_zero h).2
  ·contradiction
 ·cases h
theorem inE_eq (ps : List Prc) (own : Nat) (x : Stp) (L : Look) : inE ps own x L = if hasBody x.kind then (if blkE ps own x.body (inside L x.kind x.name) ≠ 0 then blkE ps own x.body (inside L x.kind x.name) else if hasElse x.kind then blkE ps own x.els (inside L x.kind x.name) else 0) else 0 := by
 cases x; rfl
theorem elseBody {k : Int} (h : hasBody k = false) : hasElse k = false := by
 simp only [hasBody,hasElse,decide_eq_false_iff_not] at h ⊢; omega
theorem wts_mem_len {l : List Stp} {x : Stp} (h : x ∈ l) : x.wt + l.length <= Stp.wts l + 1 := by
 induction l with
 | nil => cases h
 | cons a l ih =>
  simp only [Stp.wts,List.length_cons]
  have ha := Stp.wt_ge a
  have hl := Stp.wts_len l
  rcases List.mem_cons.1 h with rfl | h
  ·omega
  ·have := ih h; omega
theorem f167 (cps : Cap) (hcps : okCap cps) (ps : List Prc) (hps : ∀ x ∈ ps,x.Ok) (hpl : ps.length < 1000000000000) (own : Nat) (l : List Stp) :
  ∀ (cb : Cap),okCap cb -> Stp.Oks l -> ∀ (c : Cap),okCap c -> ∀ (ns : List Nme) (d : Nat) (L : Look),RScope ns d L -> ns.length + Stp.wts l + d < 100000000000 -> ∀ m,
  cvl (C u) (.fn (.func 167) [] []) [prgAV cps ps,.int .i64 own,.list cb (Stp.avs l),nmsAV c ns,.int .i64 d] m = some (.int .i64 (blkE ps own l L),m) := by
 refine Stp.lists (P := fun l => ∀ (cb : Cap),okCap cb -> Stp.Oks l -> ∀ (c : Cap),okCap c -> ∀ (ns : List Nme) (d : Nat) (L : Look),RScope ns d L -> ns.length + Stp.wts l + d < 100000000000 -> ∀ m,
  cvl (C u) (.fn (.func 167) [] []) [prgAV cps ps,.int .i64 own,.list cb (Stp.avs l),nmsAV c ns,.int .i64 d] m = some (.int .i64 (blkE ps own l L),m)) (fun l ih cb hcb hok c hc ns d L hs hw m => ?_) l
 refine call_runs (g := g167) (by rfl) (by rfl) (by rfl) ?_
 simp only [List.map_cons,List.map_nil,exp_stps hcb hok,exp_nms hc,exp_prg hcps hps]
 simp only [exp,g167,c167]
 have hll := Stp.wts_len l
 let K : St -> Prop := fun st => getE st.env 1 = .int .i64 own /\ getE st.env 2 = .list cb (Stp.avs l) /\ getE st.env 4 = .int .i64 d /\ getE st.env 5 = .lptr 5 0 0 /\ lget st.loc 5 = some (0,.cells [.list cps (ps.map Prc.av)]) /\ st.mem = { blks := m.blks,touched := [] }
 refine Runs.seq' (M := fun st => K st /\ getE st.env 3 = nmsAV c ns) (by simp [K,prgAV,newVer]) fun s1 ⟨⟨h1,h2,h3,h4,h5,h6⟩,h7⟩ => ?_
 refine Runs.seq (M := fun st => K st /\ blkE ps own l L = 0) ?_ fun s2 ⟨⟨h1,h2,h3,h4,h5,h6⟩,h7⟩ => by simp [h6,h7]
 let I : Nat -> St -> Prop := fun i st => K st /\ getE st.env 11 = .int .i64 i /\ ∃ c' ns' L',okCap c' /\ RScope ns' d L' /\ ns'.length <= ns.length + i /\ getE st.env 3 = nmsAV c' ns' /\ blkE ps own (l.drop i) L' = blkE ps own l L
 refine Runs.seq' (M := I 0) (by
  simp [I,K,h1,h2,h3,h4,h5,h6,h7]
  exact ⟨c,hc,ns,L,hs,Nat.le_refl _,rfl,rfl⟩) fun s4 hI => ?_
 refine Runs.block (Runs.upto (I := I) l.length hI (fun i st hlt hst => ?_) (fun st hst => ?_))
 ·obtain ⟨⟨h1,h2,h3,h4,h5,h6⟩,q1,c',ns',L',hc',hs',hl',q2,q3⟩ := hst
  have hwi : IntKind.wrap .i64 ((i : Int) + 1) = (i : Int) + 1 := wrap_i64 (by omega) (by omega)
  have hwd : IntKind.wrap .i64 ((d : Int) + 1) = (d : Int) + 1 := wrap_i64 (by omega) (by omega)
  have hg := stp_get l i hlt
  have hm : l[i] ∈ l := List.getElem_mem hlt
  have hoki := Stp.oks_mem hok _ hm
  obtain ⟨ih1,ih2⟩ := ih _ hm
  have hwm := Stp.wt_mem hm
  have hwm2 := wts_mem_len hm
  have hob := Stp.oks_body hoki
  have hoc := Stp.caps_ok hoki
  have hge := Stp.wt_ge l[i]
  rw [List.drop_eq_getElem_cons hlt] at q3
  generalize l[i] = y at *
  have e218 := fun m => f218 (u := u) cps hcps ps hps hpl own y hoki (by omega) c' hc' ns' d L' hs' (by omega) m
  have e149 := fun m => f149 (u := u) y hoki m
  have w1 := fun w D m => f166 (u := u) c' hc' ns' y.name w D (by omega) m
  have w2 := fun m => f219 (u := u) c' hc' ns' y.name (by omega) m
  have w3 := fun m => f165 (u := u) c' hc' ns' y.name (by omega) m
  have k0 := cell0 y
  have k2 := cell2 y
  have k12 := cell12 y
  have k13 := cell13 y
  have kt := cells14 y
  have kl := Stp.cells_len y
  simp only [Stp.av,prgAV] at hg e218 e149
  have hu : blkE ps own (y :: l.drop (i + 1)) L' = if stepE ps own L' y ≠ 0 then stepE ps own L' y else if inE ps own y L' ≠ 0 then inE ps own y L' else blkE ps own (l.drop (i + 1)) (after L' y.kind y.name) := rfl
  rw [hu] at q3
  let J : St -> Prop := fun st => K st /\ getE st.env 11 = .int .i64 i /\ getE st.env 3 = nmsAV c' ns'
  let J2 : St -> Prop := fun st => J st /\ ∃ v,getE st.env 12 = .lptr 12 v 0 /\ lget st.loc 12 = some (v,.cells y.cells)
  refine Runs.seq' (M := J) (by simp [J,K,h1,h2,h3,h4,h5,h6,q1,q2,hlt,stps_len]) fun s5 ⟨⟨h1,h2,h3,h4,h5,h6⟩,q1,q2⟩ => ?_
  refine Runs.seq (M := fun st => K st /\ getE st.env 11 = .int .i64 i /\ ∃ c2 ns2,okCap c2 /\ RScope ns2 d (after L' y.kind y.name) /\ ns2.length <= ns.length + (i + 1) /\ getE st.env 3 = nmsAV c2 ns2 /\ blkE ps own (l.drop (i + 1)) (after L' y.kind y.name) = blkE ps own l L) ?_ fun s6 ⟨⟨h1,h2,h3,h4,h5,h6⟩,q1,c2,ns2,a1,a2,a3,a4,a5⟩ => by
   simp [I,K,h1,h2,h3,h4,h5,h6,q1,hwi]
   exact ⟨c2,a1,ns2,_,a2,a3,a4,a5⟩
  refine Runs.block ?_
  refine Runs.seq' (M := J2) (by simp [J2,J,K,h1,h2,h3,h4,h5,h6,q1,q2,hlt,hg,kl,kt,stps_len]) fun s5 ⟨⟨⟨h1,h2,h3,h4,h5,h6⟩,q1,q2⟩,v,q4,q5⟩ => ?_
  by_cases hse : stepE ps own L' y = 0
  case neg =>
   rw [if_pos hse] at q3
   rw [q3] at hse e218
   refine Runs.seq (M := fun _ => False) ?_ fun _ h => h.elim
   simp [K,h1,h2,h3,h4,h5,h6,q1,q2,q4,q5,kl,kt,e218,bne_true hse,hse]
  rw [if_neg (by simpa using hse)] at q3
  rw [hse] at e218
  refine Runs.seq' (M := J2) (by simp [J2,J,K,h1,h2,h3,h4,h5,h6,q1,q2,q4,q5,kl,kt,e218]) fun s5 ⟨⟨⟨h1,h2,h3,h4,h5,h6⟩,q1,q2⟩,v,q4,q5⟩ => ?_
  refine Runs.seq' (M := fun st => J2 st /\ getE st.env 14 = nmsAV c' ns') (by simp [J2,J,K,h1,h2,h3,h4,h5,h6,q1,q2,q4,q5]) fun s5 ⟨⟨⟨⟨h1,h2,h3,h4,h5,h6⟩,q1,q2⟩,v,q4,q5⟩,q6⟩ => ?_
  have hin := hs'.inner
  refine Runs.seq' (M := fun st => J2 st /\ (y.kind = 4 /\ getE st.env 14 = nmsAV .any (ns' ++ [⟨y.name,3,d + 1⟩]) \/ y.kind ≠ 4 /\ getE st.env 14 = nmsAV c' ns')) (by
   by_cases h4' : y.kind = 4
   ·have w := w1 3 (d + 1)
    simp [J2,J,K,h1,h2,h3,h4,h5,h6,q1,q2,q4,q5,q6,kl,k0,k2,h4',hwd,w]
   ·simp [J2,J,K,h1,h2,h3,h4,h5,h6,q1,q2,q4,q5,q6,kl,k0,h4',ne_true h4']) fun s5 ⟨⟨⟨⟨h1,h2,h3,h4,h5,h6⟩,q1,q2⟩,v,q4,q5⟩,q6⟩ => ?_
  let Sc : St -> Prop := fun st => ∃ c14 ns14,okCap c14 /\ RScope ns14 (d + 1) (inside L' y.kind y.name) /\ ns14.length <= ns'.length + 1 /\ getE st.env 14 = nmsAV c14 ns14
  refine Runs.seq' (M := fun st => J2 st /\ Sc st) (by
   by_cases h8' : y.kind = 8
   ·have h4' : y.kind ≠ 4 := by omega
    have w := w1 5 (d + 1)
    have hn := stepE_new hse (by omega)
    simp [J2,J,K,Sc,h1,h2,h3,h4,h5,h6,q1,q2,q4,q5,kl,k0,k2,h8',hwd,w]
    refine ⟨.any,.inr rfl,ns' ++ [⟨y.name,5,d + 1⟩],?_,by simp,rfl⟩
    have := hin.put (put_inner _ _ hn) 5 (by decide)
    simpa [inside,lookR,h8'] using this
   ·simp [J2,J,K,Sc,h1,h2,h3,h4,h5,h6,q1,q2,q4,q5,kl,k0,ne_true h8']
    rcases q6 with ⟨h4',q6⟩ | ⟨h4',q6⟩
    ·have hn := stepE_new hse (by omega)
     refine ⟨.any,.inr rfl,ns' ++ [⟨y.name,3,d + 1⟩],?_,by simp,q6⟩
     have := hin.put (put_inner _ _ hn) 3 (by decide)
     simpa [inside,lookR,h4'] using this
    ·refine ⟨c',hc',ns',?_,by omega,q6⟩
     simpa [inside,h4',h8'] using hin) fun s5 ⟨⟨⟨⟨h1,h2,h3,h4,h5,h6⟩,q1,q2⟩,v,q4,q5⟩,c14,ns14,b1,b2,b3,q6⟩ => ?_
  have eb := fun m => ih1 y.cb hoc.1 hob.1 c14 b1 ns14 (d + 1) _ (by simpa using b2) (by omega) m
  have ee := fun m => ih2 y.ce hoc.2 hob.2 c14 b1 ns14 (d + 1) _ (by simpa using b2) (by omega) m
  simp only [prgAV,Int.natCast_add,Int.cast_ofNat_Int] at eb ee
  rw [inE_eq] at q3
  generalize blkE ps own y.body (inside L' y.kind y.name) = be at *
  generalize blkE ps own y.els (inside L' y.kind y.name) = ele at *
  let J3 : St -> Prop := fun st => J2 st /\ getE st.env 14 = nmsAV c14 ns14 /\ getE st.env 15 = .bool (hasBody y.kind) /\ getE st.env 16 = .bool (hasElse y.kind)
  refine Runs.seq' (M := J3) (by simp [J3,J2,J,K,h1,h2,h3,h4,h5,h6,q1,q2,q4,q5,q6,kl,kt,e149]) fun s5 ⟨⟨⟨⟨h1,h2,h3,h4,h5,h6⟩,q1,q2⟩,v,q4,q5⟩,q6,q7,q8⟩ => ?_
  let Q3 : Prop := ((if hasElse y.kind = true then ele else 0) ≠ 0 -> (if hasElse y.kind = true then ele else 0) = blkE ps own l L) /\ ((if hasElse y.kind = true then ele else 0) = 0 -> blkE ps own (l.drop (i + 1)) (after L' y.kind y.name) = blkE ps own l L)
  refine Runs.seq (M := fun st => J3 st /\ Q3) ?_ fun s6 ⟨⟨⟨⟨⟨h1,h2,h3,h4,h5,h6⟩,q1,q2⟩,v,q4,q5⟩,q6,q7,q8⟩,q9,q10⟩ => ?_
  ·by_cases hb : hasBody y.kind = true
   case neg =>
    have hb' : hasBody y.kind = false := by simpa using hb
    have he' := elseBody hb'
    rw [hb'] at q7 q3
    simp only [Bool.false_eq_true,if_false,ne_eq,not_true_eq_false] at q3
    have hq : Q3 := by simp [Q3,he',q3]
    simp [J3,J2,J,K,h1,h2,h3,h4,h5,h6,q1,q2,q4,q5,q6,q7,q8,hb',hq]
   rw [hb] at q7 q3
   simp only [if_true] at q3
   by_cases hbe : be = 0
   case neg =>
    rw [if_pos (by rw [if_pos hbe]; exact hbe),if_pos hbe] at q3
    rw [q3] at hbe eb
    simp [K,h1,h2,h3,h4,h5,h6,q1,q2,q4,q5,q6,q7,q8,kl,k12,eb,hwd,bne_true hbe,hbe]
   rw [if_neg (show ¬ be ≠ 0 by simpa using hbe)] at q3
   rw [hbe] at eb
   have hq : Q3 := by
    refine ⟨fun hz => ?_,fun hz => ?_⟩
    ·rw [if_pos hz] at q3; exact q3
    ·rw [if_neg (by simpa using hz)] at q3; exact q3
   simp [J3,J2,J,K,h1,h2,h3,h4,h5,h6,q1,q2,q4,q5,q6,q7,q8,kl,k12,eb,hwd,hb,hq]
  refine Runs.seq (M := fun st => J2 st /\ blkE ps own (l.drop (i + 1)) (after L' y.kind y.name) = blkE ps own l L) ?_ fun s6 ⟨⟨⟨⟨h1,h2,h3,h4,h5,h6⟩,q1,q2⟩,v,q4,q5⟩,q3⟩ => ?_
  ·by_cases he : hasElse y.kind = true
   case neg =>
    have he' : hasElse y.kind = false := by simpa using he
    rw [he'] at q8
    have hq := q10 (by simp [he'])
    simp [J2,J,K,h1,h2,h3,h4,h5,h6,q1,q2,q4,q5,q6,q7,q8,hq]
   rw [he] at q8
   simp only [he,if_true] at q9 q10
   by_cases hez : ele = 0
   case neg =>
    have hq := q9 hez
    rw [hq] at hez ee
    simp [K,h1,h2,h3,h4,h5,h6,q1,q2,q4,q5,q6,q7,q8,kl,k13,ee,hwd,bne_true hez,hez]
   have hq := q10 hez
   rw [hez] at ee
   simp [J2,J,K,h1,h2,h3,h4,h5,h6,q1,q2,q4,q5,q6,q7,q8,kl,k13,ee,hwd,hq]
  ·by_cases hk2 : y.kind = 2
   ·have hn := stepE_new hse (by omega)
    have w := w1 2 d
    simp [K,h1,h2,h3,h4,h5,h6,q1,q2,q4,q5,kl,k0,k2,hk2,w]
    refine ⟨.any,.inr rfl,ns' ++ [⟨y.name,2,d⟩],?_,by simp; omega,rfl,by simpa [hk2] using q3⟩
    have := hs'.put hn 2 (by decide)
    simpa [after,hk2,lookR] using this
   by_cases hk3 : y.kind = 3
   ·obtain ⟨c3,hc3,w⟩ := w2 { blks := m.blks,touched := [] }
    simp [K,h1,h2,h3,h4,h5,h6,q1,q2,q4,q5,kl,k0,k2,hk3,w]
    refine ⟨c3,hc3,_,?_,?_,rfl,by simpa [hk3] using q3⟩
    ·have := hs'.del y.name
     simpa [after,hk3] using this
    ·have := List.length_filter_le (fun x : Nme => x.name != y.name) ns'
     omega
   by_cases hk5 : y.kind = 5
   ·have hlk := stepE_look hse hk5
    obtain ⟨nn,w,e',hf,h0,h5',hL,-⟩ := find_cases hs' y.name
    rw [hf] at w3
    simp only [Nme.av] at w3
    rcases hlk with hn | hbit
    ·have hw0 : w = 0 := by
      have := (hs'.none_iff y.name).1 hn
      rw [hf] at this; exact this
     subst hw0
     have w := w1 4 d
     simp [K,h1,h2,h3,h4,h5,h6,q1,q2,q4,q5,kl,k0,k2,hk5,w,w3]
     refine ⟨.any,.inr rfl,ns' ++ [⟨y.name,4,d⟩],?_,by simp; omega,rfl,by simpa [hk5] using q3⟩
     have := hs'.put hn 4 (by decide)
     simpa [after,hk5,lookR] using this
    ·have hw0 : w ≠ 0 := by
      rintro rfl
      rw [hL] at hbit
      simp [lookR] at hbit
     simp [K,h1,h2,h3,h4,h5,h6,q1,q2,q4,q5,kl,k0,k2,hk5,w3,ne_true hw0]
     refine ⟨c',hc',ns',?_,by omega,rfl,by simpa [hk5] using q3⟩
     simpa [after,hk5,put_same _ _ _ hbit] using hs'
   ·simp [K,h1,h2,h3,h4,h5,h6,q1,q2,q4,q5,kl,k0,k2,ne_true hk2,ne_true hk3,ne_true hk5]
    refine ⟨c',hc',ns',?_,by omega,rfl,q3⟩
    simpa [after,hk2,hk3,hk5] using hs'
 ·obtain ⟨⟨h1,h2,h3,h4,h5,h6⟩,q1,c',ns',L',hc',hs',hl',q2,q3⟩ := hst
  rw [List.drop_length] at q3
  have hz : blkE ps own l L = 0 := q3.symm
  simp [K,l167_0,h1,h2,h3,h4,h5,h6,q1,hz,stps_len]
end Go.Abs.Tz
set_option maxRecDepth 100000
set_option maxHeartbeats 8000000
namespace Go.Abs.Tz
open Go.Abs
variable {u : Nat}
attribute [local simp] exec aops astep wantedA aop evO setO setU getE getE_setE lget lget_lset aBin aInt aUn AV.cells newVar padd rd wr asElem single splice aStr adraw ascan Runs gets RV.get tupled frz_int frz_bool
theorem procI_lt (ps : List Prc) (k : Nat) (hk : k < ps.length) : decide (procI ps ps[k].name < (k : Int)) = (ps.take k).any (fun p => p.name == ps[k].name) := by
 unfold procI
 cases h : procN ps ps[k].name with
 | none =>
  rw [procN,List.findIdx?_eq_none_iff] at h
  have := h ps[k] (List.getElem_mem hk)
  simp at this
 | some n =>
  rw [procN,List.findIdx?_eq_some_iff_getElem] at h
  obtain ⟨h1,h2,h3⟩ := h
  by_cases hn : n < k
  ·have ha : (ps.take k).any (fun p => p.name == ps[k].name) = true := by
    rw [List.any_eq_true]
    refine ⟨ps[n],?_,h2⟩
    rw [List.mem_take_iff_getElem]
    exact ⟨n,by omega,rfl⟩
   rw [ha]
   simp; omega
  ·have ha : (ps.take k).any (fun p => p.name == ps[k].name) = false := by
    rw [List.any_eq_false]
    intro x hx
    rw [List.mem_take_iff_getElem] at hx
    obtain ⟨j,hj,rfl⟩ := hx
    exact h3 j (by omega)
   rw [ha]
   simp; omega
theorem parsL_inner (l : List Par) : ∀ L : Look,L.inner = L -> (parsL l L).inner = parsL l L := by
 induction l with
 | nil => exact fun _ h => h
 | cons x l ih =>
  intro L h
  refine ih _ ?_
  funext t
  have := congrFun h t
  simp only [Look.inner,Look.put] at this ⊢
  by_cases ht : t = x.name
  ·simp [ht]
  ·simpa [ht] using this
theorem noL_inner : noL.inner = noL := rfl
theorem f100 (cps : Cap) (hcps : okCap cps) (ps : List Prc) (hps : ∀ x ∈ ps,x.Ok) (hpw : prcsW ps < 10000000000) (k : Nat) (hk : k < ps.length) (m : Mem) :
  cvl (C u) (.fn (.func 100) [] []) [prgAV cps ps,.int .i64 k] m = some (.int .i64 (procE ps k ps[k]),m) := by
 refine call_runs (g := g100) (by rfl) (by rfl) (by rfl) ?_
 simp only [List.map_cons,List.map_nil,exp_prg hcps hps]
 simp only [exp,g100,c100]
 have hlen := prcsW_len ps
 have hm : ps[k] ∈ ps := List.getElem_mem hk
 have hok := hps _ hm
 have hwm := Prc.wt_mem hm
 have hlt := procI_lt ps k hk
 have e150 := fun m => f150 (u := u) cps hcps ps hps ps[k].name (by omega) m
 have e164 := fun m => f164 (u := u) ps[k].name m
 have e167 := fun (c : Cap) (hc : okCap c) (ns : List Nme) (L : Look) (hs : RScope ns ((1 : Nat) : Int) L) (hw : ns.length + Stp.wts ps[k].body + 1 < 100000000000) (m : Mem) => f167 (u := u) cps hcps ps hps (by omega) k ps[k].body ps[k].cb hok.2.2.2.1 hok.2.2.2.2.1 c hc ns 1 L hs hw m
 have e148 := fun m => f148 (u := u) ps[k].body ps[k].cb hok.2.2.2.1 hok.2.2.2.2.1 (by simp only [Prc.wt] at hwm; omega) m
 have hcw := Stp.cnts_le_wts ps[k].body
 simp only [Prc.wt] at hwm
 generalize hxk : ps[k] = x at *
 simp only [procE]
 rw [<- hlt]
 let K : St -> Prop := fun st => getE st.env 1 = .int .i64 k /\ getE st.env 2 = .lptr 2 0 0 /\ lget st.loc 2 = some (0,.cells [.list cps (ps.map Prc.av)]) /\ st.mem = { blks := m.blks,touched := [] }
 refine Runs.seq' (M := K) (by simp [K,prgAV,newVer]) fun s1 ⟨h1,h2,h3,h4⟩ => ?_
 let J : St -> Prop := fun st => K st /\ ∃ v,getE st.env 5 = .lptr 5 v 0 /\ lget st.loc 5 = some (v,.cells [.str x.name,.list x.cp (x.pars.map Par.av),.list x.cb (Stp.avs x.body)])
 refine Runs.seq' (M := J) (by
  simp [J,K,h1,h2,h3,h4,hk,hxk,Prc.av]) fun s1 ⟨⟨h1,h2,h3,h4⟩,v,h5,h6⟩ => ?_
 simp only [prgAV] at e150 e167
 cases hn : namedB x.name with
 | false =>
  rw [hn] at e164
  refine Runs.seq (M := fun _ => False) ?_ fun _ h => h.elim
  simp [h1,h2,h3,h4,h5,h6,e164]
 | true =>
 rw [hn] at e164
 refine Runs.seq' (M := J) (by simp [J,K,h1,h2,h3,h4,h5,h6,e164]) fun s1 ⟨⟨h1,h2,h3,h4⟩,v,h5,h6⟩ => ?_
 by_cases hpi : procI ps x.name < (k : Int)
 ·refine Runs.seq (M := fun _ => False) ?_ fun _ h => h.elim
  simp [h1,h2,h3,h4,h5,h6,e150,hpi]
 refine Runs.seq' (M := J) (by simp [J,K,h1,h2,h3,h4,h5,h6,e150,hpi]) fun s1 ⟨⟨h1,h2,h3,h4⟩,v,h5,h6⟩ => ?_
 by_cases hp4 : 4 < x.pars.length
 ·have hp4' : (4 : Int) < (x.pars.length : Int) := by omega
  refine Runs.seq (M := fun _ => False) ?_ fun _ h => h.elim
  simp [h1,h2,h3,h4,h5,h6,hpi,hp4,hp4']
 have hp4' : ¬ (4 : Int) < (x.pars.length : Int) := by omega
 refine Runs.seq' (M := J) (by simp [J,K,h1,h2,h3,h4,h5,h6,hp4']) fun s1 ⟨⟨h1,h2,h3,h4⟩,v,h5,h6⟩ => ?_
 simp only [Bool.true_eq_false,if_false,hpi,decide_false,Bool.false_eq_true,hp4]
 refine Runs.seq' (M := fun st => J st /\ getE st.env 6 = nmsAV .nil []) (by simp [J,K,h1,h2,h3,h4,h5,h6,nmsAV]) fun s1 ⟨⟨⟨h1,h2,h3,h4⟩,v,h5,h6⟩,h7⟩ => ?_
 refine Runs.seq (M := fun st => J st /\ parsE x.pars noL = 0 /\ ∃ c' ns',okCap c' /\ RScope ns' 0 (parsL x.pars noL) /\ ns'.length <= x.pars.length /\ getE st.env 6 = nmsAV c' ns') ?_ fun s1 ⟨⟨⟨h1,h2,h3,h4⟩,v,h5,h6⟩,hz,c',ns',hc',hs',hl',h7⟩ => ?_
 ·let I : Nat -> St -> Prop := fun i st => J st /\ getE st.env 7 = .int .i64 i /\ ∃ c' ns' L',okCap c' /\ RScope ns' 0 L' /\ ns'.length <= i /\ getE st.env 6 = nmsAV c' ns' /\ parsE (x.pars.drop i) L' = parsE x.pars noL /\ parsL (x.pars.drop i) L' = parsL x.pars noL
  refine Runs.seq' (M := I 0) (by
   simp [I,J,K,h1,h2,h3,h4,h5,h6,h7]
   exact ⟨.nil,.inl rfl,[],noL,RScope.empty 0,rfl,rfl,rfl,rfl⟩) fun s4 hI => ?_
  refine Runs.block (Runs.loop (I := I) x.pars.length hI fun i st hi hst => ?_)
  obtain ⟨⟨⟨h1,h2,h3,h4⟩,v,h5,h6⟩,q1,c',ns',L',hc',hs',hl',q2,q3,q4⟩ := hst
  rcases Nat.lt_or_ge i x.pars.length with hlt2 | hge
  ·have hwi : IntKind.wrap .i64 ((i : Int) + 1) = (i : Int) + 1 := wrap_i64 (by omega) (by omega)
   rw [List.drop_eq_getElem_cons hlt2] at q3 q4
   have f1 := fun m => f164 (u := u) x.pars[i].name m
   have f2 := fun m => f165 (u := u) c' hc' ns' x.pars[i].name (by omega) m
   have f3 := fun m => f166 (u := u) c' hc' ns' x.pars[i].name 1 0 (by omega) m
   have f4 := fun m => f99 (u := u) x.pars[i].size 1 12 m
   simp only [parsE] at q3
   simp only [parsL] at q4
   cases hnp : namedB x.pars[i].name with
   | false =>
    rw [hnp] at f1 q3
    right
    simp at q3
    simp [l100_0,h1,h2,h3,h4,h5,h6,q1,q2,hlt2,Par.av,f1,<- q3]
   | true =>
    rw [hnp] at f1 q3
    simp only [Bool.true_eq_false,if_false] at q3
    by_cases hsz : x.pars[i].size < 1 \/ 12 < x.pars[i].size
    ·have : (decide (x.pars[i].size < 1) || decide (x.pars[i].size > 12)) = true := by simpa using hsz
     rw [this] at f4
     rw [if_pos hsz] at q3
     right
     simp [l100_0,h1,h2,h3,h4,h5,h6,q1,q2,hlt2,Par.av,f1,f4,<- q3]
    have : (decide (x.pars[i].size < 1) || decide (x.pars[i].size > 12)) = false := by simp; omega
    rw [this] at f4
    rw [if_neg hsz] at q3
    obtain ⟨nn,w,e',hf,h0,h5',hL,-⟩ := find_cases hs' x.pars[i].name
    rw [hf] at f2
    simp only [Nme.av] at f2
    by_cases hln : L' x.pars[i].name = .none
    ·have hw0 : w = 0 := by
      have := (hs'.none_iff x.pars[i].name).1 hln
      rw [hf] at this; exact this
     subst hw0
     rw [if_neg (by simpa using hln)] at q3
     left
     refine ⟨hlt2,?_⟩
     simp [I,J,K,l100_0,h1,h2,h3,h4,h5,h6,q1,q2,hlt2,Par.av,f1,f2,f3,f4,hwi]
     refine ⟨.any,.inr rfl,_,_,?_,?_,rfl,q3,q4⟩
     ·have := hs'.put hln 1 (by decide)
      simpa [lookR] using this
     ·simp; omega
    ·have hw0 : w ≠ 0 := by
      rintro rfl
      apply hln
      rw [hL]; simp [lookR]
     rw [if_pos hln] at q3
     right
     simp [l100_0,h1,h2,h3,h4,h5,h6,q1,q2,hlt2,Par.av,f1,f2,f4,bne_true hw0,<- q3]
  ·right
   have : i = x.pars.length := by omega
   subst this
   rw [List.drop_length] at q3 q4
   simp only [parsE] at q3
   simp only [parsL] at q4
   simp [J,K,l100_0,h1,h2,h3,h4,h5,h6,q1,q2,<- q3]
   rw [<- q4]
   exact ⟨c',hc',ns',hs',hl',rfl⟩
 ·rw [hz]
  simp only [ne_eq,not_true_eq_false,if_false]
  have hs1 : RScope ns' ((1 : Nat) : Int) (parsL x.pars noL) := by
   have := hs'.inner
   rw [parsL_inner _ _ noL_inner] at this
   simpa using this
  have e := e167 c' hc' ns' _ hs1 (by omega)
  have e' : ∀ m,cvl (C u) (.fn (.func 167) [] []) [.agg [.list cps (ps.map Prc.av)],.int .i64 k,.list x.cb (Stp.avs x.body),nmsAV c' ns',.int .i64 1] m = some (.int .i64 (blkE ps k x.body (parsL x.pars noL)),m) := e
  generalize blkE ps k x.body (parsL x.pars noL) = be at *
  refine Runs.seq' (M := fun st => J st /\ getE st.env 6 = nmsAV c' ns' /\ getE st.env 8 = .int .i64 (Stp.cnts x.body) /\ getE st.env 9 = .int .i64 (Stp.deeps x.body)) (by simp [J,K,h1,h2,h3,h4,h5,h6,h7,e148]) fun s1 ⟨⟨⟨h1,h2,h3,h4⟩,v,h5,h6⟩,h7,h8,h9⟩ => ?_
  by_cases hc : 120 < Stp.cnts x.body
  ·have hc' : (120 : Int) < (Stp.cnts x.body : Int) := by omega
   refine Runs.seq (M := fun _ => False) ?_ fun _ h => h.elim
   simp [h1,h2,h3,h4,h5,h6,h8,hc,hc']
  have hcc : ¬ (120 : Int) < (Stp.cnts x.body : Int) := by omega
  refine Runs.seq' (M := fun st => J st /\ getE st.env 6 = nmsAV c' ns' /\ getE st.env 9 = .int .i64 (Stp.deeps x.body)) (by simp [J,K,h1,h2,h3,h4,h5,h6,h7,h8,h9,hcc]) fun s1 ⟨⟨⟨h1,h2,h3,h4⟩,v,h5,h6⟩,h7,h9⟩ => ?_
  by_cases hd : 6 < Stp.deeps x.body
  ·have hd' : (6 : Int) < (Stp.deeps x.body : Int) := by omega
   refine Runs.seq (M := fun _ => False) ?_ fun _ h => h.elim
   simp [h1,h2,h3,h4,h5,h6,h9,hc,hd,hd']
  have hdd : ¬ (6 : Int) < (Stp.deeps x.body : Int) := by omega
  refine Runs.seq' (M := fun st => J st /\ getE st.env 6 = nmsAV c' ns') (by simp [J,K,h1,h2,h3,h4,h5,h6,h7,h9,hdd]) fun s1 ⟨⟨⟨h1,h2,h3,h4⟩,v,h5,h6⟩,h7⟩ => ?_
  simp [h1,h2,h3,h4,h5,h6,h7,e',hc,hd]
theorem f22 (cps : Cap) (hcps : okCap cps) (ps : List Prc) (hps : ∀ x ∈ ps,x.Ok) (hpw : prcsW ps < 10000000000) (m : Mem) :
  cvl (C u) (.fn (.func 22) [] []) [prgAV cps ps] m = some (.int .i64 (checkE ps),m) := by
 refine call_runs (g := g22) (by rfl) (by rfl) (by rfl) ?_
 simp only [List.map_cons,List.map_nil,exp_prg hcps hps]
 simp only [g22,c22]
 have hlen := prcsW_len ps
 have e99 := fun m => f99 (u := u) ps.length 1 12 m
 have e100 := fun k hk m => f100 (u := u) cps hcps ps hps hpw k hk m
 simp only [prgAV] at *
 let K : St -> Prop := fun st => getE st.env 1 = .lptr 1 0 0 /\ lget st.loc 1 = some (0,.cells [.list cps (ps.map Prc.av)]) /\ st.mem = { blks := m.blks,touched := [] }
 refine Runs.seq' (M := K) (by simp [K,newVer]) fun s1 ⟨h1,h2,h3⟩ => ?_
 unfold checkE
 by_cases ho : ps.length < 1 \/ 12 < ps.length
 ·have : (decide ((ps.length : Int) < 1) || decide ((ps.length : Int) > 12)) = true := by simp; omega
  rw [this] at e99
  rw [if_pos ho]
  refine Runs.seq (M := fun _ => False) ?_ fun _ h => h.elim
  simp [h1,h2,h3,e99]
 have : (decide ((ps.length : Int) < 1) || decide ((ps.length : Int) > 12)) = false := by simp; omega
 rw [this] at e99
 rw [if_neg ho]
 refine Runs.seq' (M := K) (by simp [K,h1,h2,h3,e99]) fun s1 ⟨h1,h2,h3⟩ => ?_
 refine Runs.seq (M := fun st => K st /\ progsE ps 0 ps = 0) ?_ fun s2 ⟨⟨h1,h2,h3⟩,h4⟩ => by simp [h3,h4]
 let I : Nat -> St -> Prop := fun i st => K st /\ getE st.env 3 = .int .i64 i /\ progsE ps i (ps.drop i) = progsE ps 0 ps
 refine Runs.seq' (M := I 0) (by simp [I,K,h1,h2,h3]) fun s4 hI => ?_
 refine Runs.block (Runs.loop (I := I) ps.length hI fun i st hi hst => ?_)
 obtain ⟨⟨h1,h2,h3⟩,q1,q2⟩ := hst
 rcases Nat.lt_or_ge i ps.length with hlt | hge
 ·have hwi : IntKind.wrap .i64 ((i : Int) + 1) = (i : Int) + 1 := wrap_i64 (by omega) (by omega)
  have e := e100 i hlt
  rw [List.drop_eq_getElem_cons hlt] at q2
  simp only [progsE] at q2
  by_cases hz : procE ps i ps[i] = 0
  ·rw [if_neg (by simpa using hz)] at q2
   rw [hz] at e
   left
   refine ⟨hlt,?_⟩
   simp [I,K,l22_0,h1,h2,h3,q1,hlt,e,hwi,q2]
  ·rw [if_pos hz] at q2
   rw [q2] at e hz
   right
   simp [K,l22_0,h1,h2,h3,q1,hlt,e,bne_true hz]
 ·right
  have : i = ps.length := by omega
  subst this
  rw [List.drop_length] at q2
  simp only [progsE] at q2
  simp [K,l22_0,h1,h2,h3,q1,<- q2]
end Go.Abs.Tz
