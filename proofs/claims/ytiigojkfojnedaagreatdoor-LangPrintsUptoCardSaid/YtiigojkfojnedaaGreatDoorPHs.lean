/- A text of this proof. -/
import Derived.Test.YtiigojkfojnedaaGreatDoorPHn
import Derived.Test.YtiigojkfojnedaaGreatDoorPVh
set_option linter.unusedVariables false
set_option linter.unusedSimpArgs false
set_option maxRecDepth 100000
set_option maxHeartbeats 4000000
namespace Go.Abs.Tz
open Go.Abs
variable {u : Nat}
attribute [local simp] exec aops astep wantedA aop evO setO setU getE getE_setE lget lget_lset aBin aInt aUn AV.cells newVar padd rd wr asElem single splice aStr adraw ascan gets RV.get tupled frz_int frz_bool
theorem f95 (x : Idx) (hok : x.Ok) (hc : x.cnt < 100000000000) (m : Mem) : ∃ b,cvl (C u) (.fn (.func 95) [] []) [x.av] m = some (.bool b,m) := by
 obtain ⟨b,hb⟩ := f18 (u := u) x hok hc { blks := m.blks,touched := [] }
 refine ⟨b,call_runs (g := g95) (by rfl) (by rfl) (by rfl) ?_⟩
 simp only [List.map_cons,List.map_nil,Idx.exp_av _ _ _ hok,g95,c95]
 obtain ⟨k,n,s,c,l⟩ := x
 simp only [Idx.av] at hb ⊢
 simp [Runs,hb]
theorem f163 (c : Cap) (hc : okCap c) (l : List Idx) (hl : Idx.Oks l) (hw : Idx.cnts l < 100000000000) (m : Mem) : ∃ r : Int,cvl (C u) (.fn (.func 163) [] []) [.list c (Idx.avs l),.fn (.func 95) [] []] m = some (.int .i64 r,m) := by
 have hll := Idx.cnts_ge l
 have hx : Runs (C u).gl (cvl (C u)) g163.code { env := [.list c (Idx.avs l),.fn (.func 95) [] []].map (exp m.blks.length false),loc := [],mem := { blks := m.blks,touched := [] } } fun r =>
   (∀ i,r.1 ≠ .exit i) /\ r.2.mem = { blks := m.blks,touched := [] } /\ ∃ z : Int,getE r.2.env 4 = .int .i64 z := by
  simp only [List.map_cons,List.map_nil,exp_avs hc hl]
  simp only [exp,exps,Fn.below,if_true,g163,c163]
  let K : St -> Prop := fun st => getE st.env 0 = .list c (Idx.avs l) /\ getE st.env 1 = .fn (.func 95) [] [] /\ st.mem = { blks := m.blks,touched := [] }
  refine Runs.seq' (M := K) (by simp [K]) fun s1 ⟨h1,h2,h3⟩ => ?_
  refine Runs.seq (M := K) ?_ fun s2 ⟨h1,h2,h3⟩ => by simp [Runs,h3]
  let I : Nat -> St -> Prop := fun i st => K st /\ getE st.env 7 = .int .i64 l.length /\ getE st.env 8 = .int .i64 i
  refine Runs.seq' (M := I 0) (by simp [I,K,h1,h2,h3,avs_len]) fun s4 hI => ?_
  refine Runs.block (Runs.loop (I := I) l.length hI fun i st hi hst => ?_)
  obtain ⟨⟨h1,h2,h3⟩,q1,q2⟩ := hst
  rcases Nat.lt_or_ge i l.length with hlt | hge
  ·have hwi : IntKind.wrap .i64 ((i : Int) + 1) = (i : Int) + 1 := wrap_i64 (by omega) (by omega)
   have hm : l[i] ∈ l := List.getElem_mem hlt
   have hcm := Idx.cnt_mem hm
   obtain ⟨b,hb⟩ := f95 (u := u) l[i] (Idx.oks_mem hl _ hm) (by omega) { blks := m.blks,touched := [] }
   have hg := avs_get l i hlt
   generalize l[i] = y at hg hb
   obtain ⟨k',n',s',c2,l'⟩ := y
   simp only [Idx.av] at hg hb
   cases b with
   | false =>
    left
    refine ⟨hlt,?_⟩
    simp [I,K,l163_0,h1,h2,h3,q1,q2,hlt,hg,hb,hwi,avs_len]
   | true =>
    right
    simp [K,l163_0,h1,h2,h3,q1,q2,hlt,hg,hb,hwi,avs_len]
  ·right
   have : i = l.length := by omega
   subst this
   simp [K,l163_0,h1,h2,h3,q1,q2]
 obtain ⟨r,h1,h2,h3,z,h4⟩ := hx
 refine ⟨z,call_runs (g := g163) (by rfl) (by rfl) (by rfl) ⟨r,h1,h2,⟨[],by simpa using h3⟩,[.int .i64 z],by simp [g163,h4],by simp⟩⟩
theorem f94 (c : Cap) (hc : okCap c) (l : List Idx) (hl : Idx.Oks l) (hw : Idx.cnts l < 100000000000) (m : Mem) : ∃ b,cvl (C u) (.fn (.func 94) [] []) [.list c (Idx.avs l),.fn (.func 95) [] []] m = some (.bool b,m) := by
 obtain ⟨r,hr⟩ := f163 (u := u) c hc l hl hw { blks := m.blks,touched := [] }
 refine ⟨decide (r ≥ 0),call_runs (g := g94) (by rfl) (by rfl) (by rfl) ?_⟩
 simp only [List.map_cons,List.map_nil,exp_avs hc hl]
 simp only [exp,exps,Fn.below,if_true,g94,c94]
 simp [Runs,hr]
def gcap (n : Nat) : List AV := [.gptr n 0,.gptr (n + 1) 0,.gptr (n + 2) 0,.gptr (n + 3) 0]
def gM (B : List Blk) (a b : Int) (z : Bool) : List Blk := B ++ [.cells [.int .i64 a],.cells [.int .i64 b],.cells [.bool z],.cells [.fn (.func 93) [] (gcap B.length)]]
theorem gM_len (B : List Blk) (a b : Int) (z : Bool) : (gM B a b z).length = B.length + 4 := by simp [gM]
theorem gM0 (B : List Blk) (a b : Int) (z : Bool) (ext : List Blk) : (gM B a b z ++ ext)[B.length]? = some (.cells [.int .i64 a]) := by simp [gM]
theorem gM1 (B : List Blk) (a b : Int) (z : Bool) (ext : List Blk) : (gM B a b z ++ ext)[B.length + 1]? = some (.cells [.int .i64 b]) := by simp [gM]
theorem gM2 (B : List Blk) (a b : Int) (z : Bool) (ext : List Blk) : (gM B a b z ++ ext)[B.length + 2]? = some (.cells [.bool z]) := by simp [gM]
theorem gM3 (B : List Blk) (a b : Int) (z : Bool) (ext : List Blk) : (gM B a b z ++ ext)[B.length + 3]? = some (.cells [.fn (.func 93) [] (gcap B.length)]) := by simp [gM]
theorem gS0 (B : List Blk) (a b : Int) (z : Bool) (ext : List Blk) (x : Int) : (gM B a b z ++ ext).set B.length (.cells [.int .i64 x]) = gM B x b z ++ ext := by simp [gM]
theorem gS1 (B : List Blk) (a b : Int) (z : Bool) (ext : List Blk) (x : Int) : (gM B a b z ++ ext).set (B.length + 1) (.cells [.int .i64 x]) = gM B a x z ++ ext := by simp [gM]
theorem gS2 (B : List Blk) (a b : Int) (z : Bool) (ext : List Blk) (x : Bool) : (gM B a b z ++ ext).set (B.length + 2) (.cells [.bool x]) = gM B a b x ++ ext := by simp [gM]
theorem ex_z {α : Type} {P : St -> Prop} {Q : α -> St -> Prop} {e : Option (Ex × St)} (z0 : α) (h : ∃ s',e = some (Ex.normal,s') /\ P s' /\ Q z0 s') : ∃ s',e = some (Ex.normal,s') /\ P s' /\ ∃ z,Q z s' := by
 obtain ⟨s',h1,h2,h3⟩ := h
 exact ⟨s',h1,h2,z0,h3⟩
def opsOf : AC -> List AOp
 | .seq _ (.seq _ (.seq (.block _ (.seq _ (.ops l))) _)) => l
 | _ => []
theorem x0_mk' {x : Stp} (hx : x.Ok) : x.size.Ok /\ x.to.Ok /\ okCap x.cp /\ ∀ p ∈ x.pl,p.Ok := by
 obtain ⟨k,g,nm,cp,pl,size,to,cb,body,ce,els⟩ := x
 simp only [Stp.Ok] at hx
 exact ⟨hx.2.2.2.1.1,hx.2.2.2.2.1.1,hx.2.1,hx.2.2.1⟩
theorem f93 (B : List Blk) (l : List Stp) : ∀ (c : Cap),okCap c -> Stp.Oks l -> Stp.wts l < 100000000000 -> ∀ (a b : Int) (z : Bool) (ext : List Blk) (T : List Nat),∃ a' b' z',
  cvl (C u) (.fn (.func 93) [] (gcap B.length)) [.list c (Stp.avs l)] { blks := gM B a b z ++ ext,touched := T } = some (.tup [],{ blks := gM B a' b' z' ++ ext,touched := T }) := by
 refine Stp.lists (P := fun l => ∀ (c : Cap),okCap c -> Stp.Oks l -> Stp.wts l < 100000000000 -> ∀ (a b : Int) (z : Bool) (ext : List Blk) (T : List Nat),∃ a' b' z',
  cvl (C u) (.fn (.func 93) [] (gcap B.length)) [.list c (Stp.avs l)] { blks := gM B a b z ++ ext,touched := T } = some (.tup [],{ blks := gM B a' b' z' ++ ext,touched := T })) (fun l ih c hc hok hw a b z ext T => ?_) l
 have hll := Stp.wts_len l
 have hnl : ∀ M : Mem,M.nol = nol := fun _ => rfl
 let Mm : St -> Prop := fun st => ∃ a b z,st.mem = { blks := gM B a b z ++ ext,touched := [] }
 have hx : Runs (C u).gl (cvl (C u)) g93.code { env := ([] ++ [AV.list c (Stp.avs l)] ++ gcap B.length).map (exp (gM B a b z ++ ext).length false),loc := [],mem := { blks := gM B a b z ++ ext,touched := [] } } fun r =>
   (∀ i,r.1 ≠ .exit i) /\ Mm r.2 := by
  have henv : ([] ++ [AV.list c (Stp.avs l)] ++ gcap B.length).map (exp (gM B a b z ++ ext).length false) = AV.list c (Stp.avs l) :: gcap B.length := by
   have hl : (gM B a b z ++ ext).length = B.length + 4 + ext.length := by simp [gM_len]
   simp only [gcap,List.nil_append,List.cons_append,List.map_cons,List.map_nil,exp_stps hc hok]
   have q0 : B.length < B.length + 4 + ext.length := by omega
   have q1 : B.length + 1 < B.length + 4 + ext.length := by omega
   have q2 : B.length + 2 < B.length + 4 + ext.length := by omega
   have q3 : B.length + 3 < B.length + 4 + ext.length := by omega
   simp only [exp,hl,q0,q1,q2,q3,if_true]
  rw [henv]
  simp only [g93,c93,gcap]
  let K : St -> Prop := fun st => getE st.env 1 = .gptr B.length 0 /\ getE st.env 2 = .gptr (B.length + 1) 0 /\ getE st.env 3 = .gptr (B.length + 2) 0 /\ getE st.env 4 = .gptr (B.length + 3) 0 /\ Mm st
  let I : Nat -> St -> Prop := fun i st => K st /\ getE st.env 10 = .list c (Stp.avs l) /\ getE st.env 11 = .int .i64 l.length /\ getE st.env 12 = .int .i64 i
  refine Runs.seq' (M := fun st => (getE st.env 1 = .gptr B.length 0 /\ getE st.env 2 = .gptr (B.length + 1) 0 /\ getE st.env 3 = .gptr (B.length + 2) 0 /\ getE st.env 4 = .gptr (B.length + 3) 0) /\ getE st.env 10 = .list c (Stp.avs l) /\ getE st.env 11 = .int .i64 l.length /\ getE st.env 12 = .int .i64 0 /\ st.mem = { blks := gM B a b z ++ ext,touched := [] }) (by simp [stps_len]) fun s4 ⟨⟨d1,d2,d3,d4⟩,d5,d6,d7,d8⟩ => ?_
  have hI : I 0 s4 := ⟨⟨d1,d2,d3,d4,a,b,z,d8⟩,d5,d6,d7⟩
  refine Runs.block (Runs.upto (I := I) l.length hI (fun i st hlt hst => ?_) (fun st hst => ?_))
  ·obtain ⟨⟨h1,h2,h3,h4,a,b,z,h5⟩,q1,q2,q3⟩ := hst
   have hwi : IntKind.wrap .i64 ((i : Int) + 1) = (i : Int) + 1 := wrap_i64 (by omega) (by omega)
   have hg := stp_get l i hlt
   have hm : l[i] ∈ l := List.getElem_mem hlt
   have hoki := Stp.oks_mem hok _ hm
   obtain ⟨ih1,ih2⟩ := ih _ hm
   have hwm := Stp.wt_mem hm
   have hob := Stp.oks_body hoki
   have hoc := Stp.caps_ok hoki
   have hge := Stp.wt_ge l[i]
   generalize l[i] = y at *
   obtain ⟨o1,o2,o3,o4⟩ := x0_mk' hoki
   have hst : plcsW y.pl + y.size.cnt + y.to.cnt <= y.wt := by
    obtain ⟨k,g,nm,cp,pl,size,to,cb,body,ce,els⟩ := y
    simp only [Stp.wt,Stp.pl,Stp.size,Stp.to]; omega
   have hplen := plcsW_len y.pl
   have k2 := cell2 y
   have k3 := cell3 y
   have k4 := cell4 y
   have k8 := cell8 y
   have k12 := cell12 y
   have k13 := cell13 y
   have kt := cells14 y
   have kl := Stp.cells_len y
   simp only [Stp.av] at hg
   let J : St -> Prop := fun st => (getE st.env 1 = .gptr B.length 0 /\ getE st.env 2 = .gptr (B.length + 1) 0 /\ getE st.env 3 = .gptr (B.length + 2) 0 /\ getE st.env 4 = .gptr (B.length + 3) 0) /\ getE st.env 10 = .list c (Stp.avs l) /\ getE st.env 11 = .int .i64 l.length /\ getE st.env 12 = .int .i64 i
   let GM : Int -> Int -> Bool -> St -> Prop := fun a b z st => st.mem = { blks := gM B a b z ++ ext,touched := [] }
   let J2 : St -> Prop := fun st => J st /\ ∃ v,getE st.env 7 = .lptr 7 v 0 /\ lget st.loc 7 = some (v,.cells y.cells)
   have g0 := fun a b z => gM0 B a b z ext
   have g1 := fun a b z => gM1 B a b z ext
   have g2 := fun a b z => gM2 B a b z ext
   have g3 := fun a b z => gM3 B a b z ext
   have t0 := fun a b z x => gS0 B a b z ext x
   have t1 := fun a b z x => gS1 B a b z ext x
   have t2 := fun a b z x => gS2 B a b z ext x
   refine Runs.seq' (M := fun st => J st /\ GM a b z st /\ getE st.env 13 = .bool true) (by simp [J,GM,h1,h2,h3,h4,h5,q1,q2,q3,hlt]) fun s5 ⟨⟨⟨h1,h2,h3,h4⟩,q1,q2,q3⟩,h5,q4⟩ => ?_
   simp only [GM] at h5
   refine Runs.seq' (M := fun st => J st /\ GM a b z st) (by simp [J,GM,h1,h2,h3,h4,h5,q1,q2,q3,q4]) fun s5 ⟨⟨⟨h1,h2,h3,h4⟩,q1,q2,q3⟩,h5⟩ => ?_
   simp only [GM] at h5
   refine Runs.seq (M := fun st => J st /\ ∃ a b z,GM a b z st) ?_ fun s6 ⟨⟨⟨h1,h2,h3,h4⟩,q1,q2,q3⟩,a,b,z,h5⟩ => by
    simp only [GM] at h5
    exact Runs.fin (M := fun st => (getE st.env 1 = .gptr B.length 0 /\ getE st.env 2 = .gptr (B.length + 1) 0 /\ getE st.env 3 = .gptr (B.length + 2) 0 /\ getE st.env 4 = .gptr (B.length + 3) 0) /\ getE st.env 10 = .list c (Stp.avs l) /\ getE st.env 11 = .int .i64 l.length /\ getE st.env 12 = .int .i64 ((i : Int) + 1) /\ GM a b z st) .normal (by simp [GM,h1,h2,h3,h4,h5,q1,q2,q3,hwi]) fun s' ⟨⟨d1,d2,d3,d4⟩,d5,d6,d7,d8⟩ => .inl ⟨rfl,⟨d1,d2,d3,d4,a,b,z,d8⟩,d5,d6,d7⟩
   refine Runs.block ?_
   refine Runs.seq' (M := fun st => J2 st /\ GM a b z st) (by simp [J2,J,GM,h1,h2,h3,h4,h5,q1,q2,q3,hlt,hg,kl,kt,stps_len]) fun s5 ⟨⟨⟨⟨h1,h2,h3,h4⟩,q1,q2,q3⟩,v,q4,q5⟩,h5⟩ => ?_
   simp only [GM] at h5
   refine Runs.seq' (M := fun st => J2 st /\ GM (IntKind.wrap .i64 (a + 1)) b z st) (by simp [J2,J,GM,h1,h2,h3,h4,h5,q1,q2,q3,q4,q5,g0,t0,Mem.put,hnl,nol,los,lo]) fun s5 ⟨⟨⟨⟨h1,h2,h3,h4⟩,q1,q2,q3⟩,v,q4,q5⟩,h5⟩ => ?_
   simp only [GM] at h5
   generalize IntKind.wrap .i64 (a + 1) = a' at *
   refine Runs.seq' (M := fun st => J2 st /\ GM a' (IntKind.wrap .i64 (b + y.pl.length)) z st) (by simp [J2,J,GM,h1,h2,h3,h4,h5,q1,q2,q3,q4,q5,kl,k3,g1,t1,Mem.put,hnl,nol,los,lo]) fun s5 ⟨⟨⟨⟨h1,h2,h3,h4⟩,q1,q2,q3⟩,v,q4,q5⟩,h5⟩ => ?_
   simp only [GM] at h5
   generalize IntKind.wrap .i64 (b + y.pl.length) = b' at *
   refine Runs.seq (M := fun st => J2 st /\ ∃ z,GM a' b' z st) ?_ fun s5 ⟨⟨⟨⟨h1,h2,h3,h4⟩,q1,q2,q3⟩,v,q4,q5⟩,z,h5⟩ => ?_
   ·obtain ⟨d1,hd1⟩ := f18 (u := u) y.size o1 (by omega) { blks := gM B a' b' z ++ ext,touched := [] }
    obtain ⟨d2,hd2⟩ := f18 (u := u) y.to o2 (by omega) { blks := gM B a' b' z ++ ext,touched := [] }
    rw [Idx.av_four] at hd1 hd2
    refine Runs.seq' (M := fun st => J2 st /\ ∃ z,GM a' b' z st) (by
     cases z with
     | true => exact ex_z true (by simp [J2,J,GM,h1,h2,h3,h4,h5,q1,q2,q3,q4,q5,g2,t2,Mem.put,hnl,nol,los,lo])
     | false =>
     by_cases c1 : (200 : Int) < a'
     ·exact ex_z true (by simp [J2,J,GM,h1,h2,h3,h4,h5,q1,q2,q3,q4,q5,g0,g2,t2,Mem.put,hnl,nol,los,lo,c1])
     by_cases c2 : (400 : Int) < b'
     ·exact ex_z true (by simp [J2,J,GM,h1,h2,h3,h4,h5,q1,q2,q3,q4,q5,g0,g1,g2,t2,Mem.put,hnl,nol,los,lo,c1,c2])
     by_cases c3 : (40 : Int) < (y.name.length : Int)
     ·exact ex_z true (by simp [J2,J,GM,h1,h2,h3,h4,h5,q1,q2,q3,q4,q5,g0,g1,g2,t2,Mem.put,hnl,nol,los,lo,c1,c2,kl,k2,c3])
     cases d1 with
     | true => exact ex_z true (by simp [J2,J,GM,h1,h2,h3,h4,h5,q1,q2,q3,q4,q5,g0,g1,g2,t2,Mem.put,hnl,nol,los,lo,c1,c2,kl,k2,k4,c3,hd1])
     | false => exact ex_z d2 (by simp [J2,J,GM,h1,h2,h3,h4,h5,q1,q2,q3,q4,q5,g0,g1,g2,t2,Mem.put,hnl,nol,los,lo,c1,c2,kl,k2,k4,k8,c3,hd1,hd2])) fun s5 ⟨⟨⟨⟨h1,h2,h3,h4⟩,q1,q2,q3⟩,v,q4,q5⟩,z,h5⟩ => ?_
    simp only [GM] at h5
    cases z with
    | true =>
     refine Runs.fin (M := fun st => GM a' b' true st) .ret (by simp [GM,h1,h2,h3,h4,h5,q1,q2,q3,q4,q5,g2]) fun s' d1 => ?_
     have hf : Mm s' := ⟨a',b',true,d1⟩
     simp [hf]
    | false =>
     refine Runs.fin (M := fun st => J2 st /\ GM a' b' false st) .normal (by simp [J2,J,GM,h1,h2,h3,h4,h5,q1,q2,q3,q4,q5,g2]) fun s' ⟨d1,d2⟩ => ?_
     exact .inl ⟨rfl,d1,false,d2⟩
   simp only [GM] at h5
   refine Runs.seq (M := fun st => J2 st /\ ∃ z,GM a' b' z st) ?_ fun s5 ⟨⟨⟨⟨h1,h2,h3,h4⟩,q1,q2,q3⟩,v,q4,q5⟩,z,h5⟩ => ?_
   ·let JP : St -> Prop := fun st => J2 st /\ getE st.env 50 = .list y.cp (y.pl.map Plc.av) /\ getE st.env 51 = .int .i64 y.pl.length
    let I2 : Nat -> St -> Prop := fun k st => JP st /\ getE st.env 52 = .int .i64 k /\ ∃ z,GM a' b' z st
    refine Runs.seq' (M := fun st => JP st /\ getE st.env 52 = .int .i64 0 /\ GM a' b' z st) (by simp [JP,J2,J,GM,h1,h2,h3,h4,h5,q1,q2,q3,q4,q5,kl,k3]) fun s6 ⟨d1,d2,d3⟩ => ?_
    refine Runs.block (Runs.upto (I := I2) y.pl.length ⟨d1,d2,z,d3⟩ (fun k st hlt2 hst => ?_) (fun st hst => ?_))
    ·obtain ⟨⟨⟨⟨⟨h1,h2,h3,h4⟩,q1,q2,q3⟩,v,q4,q5⟩,z1,z2⟩,z3,z,h5⟩ := hst
     simp only [GM] at h5
     have hwk : IntKind.wrap .i64 ((k : Int) + 1) = (k : Int) + 1 := wrap_i64 (by omega) (by omega)
     have hpm : y.pl[k] ∈ y.pl := List.getElem_mem hlt2
     have hpo := o4 _ hpm
     have hpw := Plc.wt_mem hpm
     have hoks : Idx.Oks y.pl[k].ix := by
      have : ∀ l : List Idx,(∀ x ∈ l,x.Ok2) -> Idx.Oks l := by
       intro l
       induction l with
       | nil => intro _; trivial
       | cons a l ih => exact fun h => ⟨(h a (by simp)).1,ih fun x hx => h x (by simp [hx])⟩
      exact this _ hpo.2.2
     obtain ⟨d4,hd4⟩ := f94 (u := u) y.pl[k].c hpo.2.1 y.pl[k].ix hoks (by simp only [Plc.wt] at hpw; omega) { blks := gM B a' b' z ++ ext,touched := [] }
     have hpa : y.pl[k].av = .agg [.str y.pl[k].name,.list y.pl[k].c (Idx.avs y.pl[k].ix)] := by simp [Plc.av,Idx.avs_eq]
     refine Runs.seq' (M := fun st => JP st /\ getE st.env 52 = .int .i64 k /\ GM a' b' z st /\ getE st.env 53 = .bool true) (by simp [JP,J2,J,GM,h1,h2,h3,h4,h5,q1,q2,q3,q4,q5,z1,z2,z3,hlt2]) fun s6 ⟨⟨⟨⟨⟨h1,h2,h3,h4⟩,q1,q2,q3⟩,v,q4,q5⟩,z1,z2⟩,z3,h5,z4⟩ => ?_
     simp only [GM] at h5
     refine Runs.seq' (M := fun st => JP st /\ getE st.env 52 = .int .i64 k /\ GM a' b' z st) (by simp [JP,J2,J,GM,h1,h2,h3,h4,h5,q1,q2,q3,q4,q5,z1,z2,z3,z4]) fun s6 ⟨⟨⟨⟨⟨h1,h2,h3,h4⟩,q1,q2,q3⟩,v,q4,q5⟩,z1,z2⟩,z3,h5⟩ => ?_
     simp only [GM] at h5
     refine Runs.seq (M := fun st => (JP st /\ getE st.env 52 = .int .i64 k) /\ ∃ z,GM a' b' z st) ?_ fun s6 ⟨⟨⟨⟨⟨⟨h1,h2,h3,h4⟩,q1,q2,q3⟩,v,q4,q5⟩,z1,z2⟩,z3⟩,z,h5⟩ => by
      simp only [GM] at h5
      exact Runs.fin (M := fun st => JP st /\ getE st.env 52 = .int .i64 ((k : Int) + 1) /\ GM a' b' z st) .normal (by simp [JP,J2,J,GM,h1,h2,h3,h4,h5,q1,q2,q3,q4,q5,z1,z2,z3,hwk]) fun s' ⟨d1,d2,d3⟩ => .inl ⟨rfl,d1,d2,z,d3⟩
     have hpx : (y.pl.map Plc.av)[k]'(by simpa using hlt2) = .agg [.str y.pl[k].name,.list y.pl[k].c (Idx.avs y.pl[k].ix)] := by rw [List.getElem_map]; exact hpa
     have hpl' : (y.pl.map Plc.av).length = y.pl.length := by simp
     refine Runs.block ?_
     refine Runs.seq' (M := fun st => (JP st /\ getE st.env 52 = .int .i64 k) /\ GM a' b' z st /\ ∃ v,getE st.env 9 = .lptr 9 v 0 /\ lget st.loc 9 = some (v,.cells [.str y.pl[k].name,.list y.pl[k].c (Idx.avs y.pl[k].ix)])) (by
      simp [JP,J2,J,GM,h1,h2,h3,h4,h5,q1,q2,q3,q4,q5,z1,z2,z3,hlt2,hpa]) fun s6 ⟨⟨⟨⟨⟨⟨h1,h2,h3,h4⟩,q1,q2,q3⟩,v,q4,q5⟩,z1,z2⟩,z3⟩,h5,v9,z5,z6⟩ => ?_
     simp only [GM] at h5
     have hx : ∃ s',exec (C u).gl (cvl (C u)) lpl (.ops (opsOf l93_0)) s6 = some (.normal,s') /\ (JP s' /\ getE s'.env 52 = .int .i64 k) /\ ∃ z,GM a' b' z s' := by
      cases z with
      | true => exact ex_z true (by simp [opsOf,l93_0,JP,J2,J,GM,h1,h2,h3,h4,h5,q1,q2,q3,q4,q5,z1,z2,z3,z5,z6,g2,t2,Mem.put,hnl,nol,los,lo])
      | false =>
      by_cases c1 : (9 : Int) < (y.pl[k].ix.length : Int)
      ·exact ex_z true (by simp [opsOf,l93_0,JP,J2,J,GM,h1,h2,h3,h4,h5,q1,q2,q3,q4,q5,z1,z2,z3,z5,z6,g2,t2,Mem.put,hnl,nol,los,lo,avs_len,c1])
      by_cases c2 : (40 : Int) < (y.pl[k].name.length : Int)
      ·exact ex_z true (by simp [opsOf,l93_0,JP,J2,J,GM,h1,h2,h3,h4,h5,q1,q2,q3,q4,q5,z1,z2,z3,z5,z6,g2,t2,Mem.put,hnl,nol,los,lo,avs_len,c1,c2])
      ·exact ex_z d4 (by simp [opsOf,l93_0,JP,J2,J,GM,h1,h2,h3,h4,h5,q1,q2,q3,q4,q5,z1,z2,z3,z5,z6,g2,t2,Mem.put,hnl,nol,los,lo,avs_len,c1,c2,hd4])
     obtain ⟨s',e1,e2,z',e3⟩ := hx
     exact ⟨(.normal,s'),e1,.inr ⟨by simp,.inl ⟨rfl,e2,z',e3⟩⟩⟩
    ·obtain ⟨⟨⟨⟨⟨h1,h2,h3,h4⟩,q1,q2,q3⟩,v,q4,q5⟩,z1,z2⟩,z3,z,h5⟩ := hst
     simp only [GM] at h5
     refine Runs.fin (M := fun st => J2 st /\ GM a' b' z st) (.exit 2) (by simp [l93_0,J2,J,GM,h1,h2,h3,h4,h5,q1,q2,q3,q4,q5,z1,z2,z3]) fun s' ⟨d1,d2⟩ => ?_
     exact ⟨by simp,.inl ⟨rfl,.inl ⟨rfl,d1,z,d2⟩⟩⟩
   simp only [GM] at h5
   obtain ⟨a2,b2,z2,w1⟩ := ih1 y.cb hoc.1 hob.1 (by omega) a' b' z ext []
   obtain ⟨a3,b3,z3,w2⟩ := ih2 y.ce hoc.2 hob.2 (by omega) a2 b2 z2 ext []
   refine Runs.seq' (M := fun st => J2 st /\ GM a2 b2 z2 st) (by simp [J2,J,GM,h1,h2,h3,h4,h5,q1,q2,q3,q4,q5,kl,k12,g3,w1]) fun s5 ⟨⟨⟨⟨h1,h2,h3,h4⟩,q1,q2,q3⟩,v,q4,q5⟩,h5⟩ => ?_
   simp only [GM] at h5
   refine Runs.fin (M := fun st => J st /\ GM a3 b3 z3 st) .normal (by simp [J,GM,h1,h2,h3,h4,h5,q1,q2,q3,q4,q5,kl,k13,g3,w2]) fun s' ⟨d1,d2⟩ => ?_
   exact .inr ⟨by simp,.inl ⟨rfl,d1,a3,b3,z3,d2⟩⟩
  ·obtain ⟨h5,q1,q2,q3⟩ := hst
   obtain ⟨a,b,z,h6⟩ := h5.2.2.2.2
   refine Runs.fin (M := fun st => st.mem = { blks := gM B a b z ++ ext,touched := [] }) (.exit 0) (by simp [l93_1,q1,q2,q3,h6]) fun s' d1 => ?_
   have hf : Mm s' := ⟨a,b,z,d1⟩
   simp [hf]
 obtain ⟨r,h1,h2,a',b',z',h3⟩ := hx
 refine ⟨a',b',z',mod_runs (g := g93) (by rfl) (by rfl) (by rfl) (by simp [gM_len]) ⟨r,h1,h2,⟨[],by simpa using h3⟩,[],by simp [g93],by simp [frz,frzW,frzWs]⟩⟩
end Go.Abs.Tz
