/- A text of this proof. -/
import Derived.Test.YtiigojkfojnedaaGreatDoorPHg
set_option linter.unusedVariables false
set_option linter.unusedSimpArgs false
set_option maxRecDepth 100000
set_option maxHeartbeats 8000000
namespace Go.Abs.Tz
open Go.Abs
variable {u : Nat}
attribute [local simp] exec aops astep wantedA aop evO setO setU getE getE_setE lget lget_lset aBin aInt aUn AV.cells newVar padd rd wr asElem single splice aStr adraw ascan Runs gets RV.get tupled frz_int frz_bool
def idxI (q : Prc -> Bool) (l : List Prc) : Int := match l.findIdx? q with
 | none => -1
 | some i => i
theorem f66 {B : List Blk} {fv : AV} {q : Prc -> Bool} (hf : Fix B.length fv) (c : Cap) (hc : okCap c) (l : List Prc) (hl : ∀ p ∈ l,p.Ok) (hlen : l.length < 1000000000000)
  (h : ∀ x ∈ l,Ans u B fv [x.av] (.bool (q x))) : Ans u B (.fn (.func 66) [] []) [.list c (l.map Prc.av),fv] (.int .i64 (idxI q l)) := by
 intro ext T
 refine call_runs (g := g66) (by rfl) (by rfl) (by rfl) ?_
 simp only [List.map_cons,List.map_nil,exp_prcs hc hl,hf _ false (show B.length <= (B ++ ext).length by simp),g66,c66]
 let K : St -> Prop := fun st => getE st.env 0 = .list c (l.map Prc.av) /\ getE st.env 1 = fv /\ st.mem = { blks := B ++ ext,touched := [] }
 refine Runs.seq' (M := K) (by simp [K]) fun s1 ⟨h1,h2,h3⟩ => ?_
 refine Runs.seq (M := fun st => K st /\ idxI q l = -1) ?_ fun s2 ⟨⟨h1,h2,h3⟩,h4⟩ => by simp [h3,h4]
 let I : Nat -> St -> Prop := fun i st => K st /\ getE st.env 7 = .int .i64 l.length /\ getE st.env 8 = .int .i64 i /\ ∀ j (hj : j < l.length),j < i -> q l[j] = false
 refine Runs.seq' (M := I 0) (by simp [I,K,h1,h2,h3]) fun s4 hI => ?_
 refine Runs.block (Runs.loop (I := I) l.length hI fun i st hi hst => ?_)
 obtain ⟨⟨h1,h2,h3⟩,q1,q2,q4⟩ := hst
 rcases Nat.lt_or_ge i l.length with hlt | hge
 ·have hw : IntKind.wrap .i64 ((i : Int) + 1) = (i : Int) + 1 := wrap_i64 (by omega) (by omega)
  have hx := h _ (List.getElem_mem hlt) ext []
  simp only [Prc.av] at hx
  cases hz : q l[i] with
  | false =>
   left
   refine ⟨hlt,?_⟩
   rw [hz] at hx
   have q5 := before_succ (P := fun j => ∀ hj : j < l.length,q l[j] = false) (n := l.length) (fun j a b c => q4 j c b) (fun _ => hz)
   simp [I,K,l66_0,h1,h2,h3,q1,q2,hlt,Prc.av,hx,hw]
   exact fun j hj hji => q5 j hj hji hj
  | true =>
   right
   rw [hz] at hx
   have hi : idxI q l = i := by
    have : l.findIdx? q = some i := by
     rw [List.findIdx?_eq_some_iff_getElem]
     exact ⟨hlt,hz,fun j hj => by simp [q4 j (by omega) hj]⟩
    simp [idxI,this]
   simp [K,l66_0,h1,h2,h3,q1,q2,hlt,Prc.av,hx,hi]
 ·right
  have : i = l.length := by omega
  subst this
  have hi : idxI q l = -1 := by
   have : l.findIdx? q = none := by
    rw [List.findIdx?_eq_none_iff]
    intro x hx
    obtain ⟨j,hj,rfl⟩ := List.getElem_of_mem hx
    exact q4 j hj hj
   simp [idxI,this]
  simp [K,l66_0,h1,h2,h3,q1,q2,hi]
theorem f189 {B : List Blk} {fv : AV} {q : Prc -> Bool} (hf : Fix B.length fv) (c : Cap) (hc : okCap c) (l : List Prc) (hl : ∀ p ∈ l,p.Ok) (hlen : l.length < 1000000000000)
  (h : ∀ x ∈ l,Ans u B fv [x.av] (.bool (q x))) : Ans u B (.fn (.func 189) [] []) [.list c (l.map Prc.av),fv] (.bool (l.any q)) := by
 intro ext T
 have hx := f66 (u := u) hf c hc l hl hlen h ext []
 refine call_runs (g := g189) (by rfl) (by rfl) (by rfl) ?_
 simp only [List.map_cons,List.map_nil,exp_prcs hc hl,hf _ false (show B.length <= (B ++ ext).length by simp),g189,c189]
 unfold idxI at hx
 cases hfi : l.findIdx? q with
 | none =>
  rw [hfi] at hx
  have ha : l.any q = false := by
   rw [List.findIdx?_eq_none_iff] at hfi
   rw [List.any_eq_false]
   intro x hx; simp [hfi x hx]
  rw [ha]
  simp [hx]
 | some i =>
  rw [hfi] at hx
  have ha : l.any q = true := by
   rw [List.findIdx?_eq_some_iff_getElem] at hfi
   obtain ⟨h1,h2,_⟩ := hfi
   rw [List.any_eq_true]
   exact ⟨_,List.getElem_mem h1,h2⟩
  rw [ha]
  have : (0 : Int) <= (i : Int) := by omega
  simp [hx,this]
theorem f276 {B : List Blk} {n : Nat} (x : Stp) (hn : B[n]? = some (.cells x.cells)) (p : Prc) (hp : p.Ok) : Ans u B (.fn (.func 276) [] [.gptr n 0]) [p.av] (.bool (p.name == x.name)) := by
 intro ext T
 have hlt : n < B.length := by
  rcases Nat.lt_or_ge n B.length with h | h
  ·exact h
  ·rw [List.getElem?_eq_none h] at hn; cases hn
 have hlt' : n < (B ++ ext).length := by simp; omega
 have hn' : (B ++ ext)[n]? = some (.cells x.cells) := by rw [List.getElem?_append_left hlt]; exact hn
 refine clo_runs (g := g276) (by rfl) (by rfl) (by rfl) ?_
 simp only [List.nil_append,List.cons_append,List.map_cons,List.map_nil,Prc.exp_av _ _ _ hp]
 simp only [exp,hlt',if_true,g276,c276]
 have k2 := cell2 x
 have kl := Stp.cells_len x
 have hb : (p.name == x.name) = decide (p.name = x.name) := by cases h : p.name == x.name <;> simp_all
 simp [Prc.av,hn',k2,kl,hb]
theorem f190 {B : List Blk} {n : Nat} (nm : List Nat) (r : List AV) (hn : B[n]? = some (.cells (.str nm :: r))) (p : Prc) (hp : p.Ok) : Ans u B (.fn (.func 190) [] [.gptr n 0]) [p.av] (.bool (p.name == nm)) := by
 intro ext T
 have hlt : n < B.length := by
  rcases Nat.lt_or_ge n B.length with h | h
  ·exact h
  ·rw [List.getElem?_eq_none h] at hn; cases hn
 have hlt' : n < (B ++ ext).length := by simp; omega
 have hn' : (B ++ ext)[n]? = some (.cells (.str nm :: r)) := by rw [List.getElem?_append_left hlt]; exact hn
 refine clo_runs (g := g190) (by rfl) (by rfl) (by rfl) ?_
 simp only [List.nil_append,List.cons_append,List.map_cons,List.map_nil,Prc.exp_av _ _ _ hp]
 simp only [exp,hlt',if_true,g190,c190]
 have hb : (p.name == nm) = decide (p.name = nm) := by cases h : p.name == nm <;> simp_all
 simp [Prc.av,hn',hb]
def _root_.Go.Abs.Stp.gate : Stp -> Int
 | .mk _ g _ _ _ _ _ _ _ _ _ => g
def _root_.Go.Abs.Stp.cp : Stp -> Cap
 | .mk _ _ _ c _ _ _ _ _ _ _ => c
def _root_.Go.Abs.Stp.pl : Stp -> List Plc
 | .mk _ _ _ _ l _ _ _ _ _ _ => l
def _root_.Go.Abs.Stp.size : Stp -> Idx
 | .mk _ _ _ _ _ x _ _ _ _ _ => x
def _root_.Go.Abs.Stp.to : Stp -> Idx
 | .mk _ _ _ _ _ _ x _ _ _ _ => x
theorem cell1 (x : Stp) : x.cells.tail.take 1 = [.int .i64 x.gate] := by cases x; rfl
theorem cell3 (x : Stp) : (x.cells.drop 3).take 1 = [.list x.cp (x.pl.map Plc.av)] := by cases x; rfl
theorem cell4 (x : Stp) : (x.cells.drop 4).take 4 = x.size.four := by
 obtain ⟨k,g,nm,cp,pl,⟨k1,n1,s1,c1,l1⟩,⟨k2,n2,s2,c2,l2⟩,cb,body,ce,els⟩ := x; rfl
theorem cell8 (x : Stp) : (x.cells.drop 8).take 4 = x.to.four := by
 obtain ⟨k,g,nm,cp,pl,⟨k1,n1,s1,c1,l1⟩,⟨k2,n2,s2,c2,l2⟩,cb,body,ce,els⟩ := x; rfl
theorem stepE_eq (ps : List Prc) (own : Nat) (L : Look) (x : Stp) : stepE ps own L x =
  if x.kind = 1 then (if x.gate < 1 \/ 12 < x.gate then 3 else if x.pl.length ≠ arityN x.gate then 2 else first (placeE L) x.pl)
  else if x.kind = 2 \/ x.kind = 4 then (if newE L x.name ≠ 0 then newE L x.name else x.size.err (mayOf L) 1)
  else if x.kind = 8 then (if newE L x.name ≠ 0 then newE L x.name else if x.size.err (mayOf L) 1 ≠ 0 then x.size.err (mayOf L) 1 else x.to.err (mayOf L) 1)
  else if x.kind = 3 then (match L x.name with
   | .reg true => 0
   | .reg false => 7
   | _ => 1)
  else if x.kind = 5 then (match x.pl with
   | [p] => if placeE L p ≠ 0 then placeE L p else if L x.name = .bit then 0 else newE L x.name
   | _ => 2)
  else if x.kind = 6 then (match x.pl with
   | [p] => placeE L p
   | _ => 2)
  else if x.kind = 7 then (if L x.name = .bit then 0 else 1)
  else if x.kind = 9 then (match procN ps x.name with
   | none => 1
   | some n => if own <= n then 15 else match ps[n]? with
    | some q => if x.pl.length ≠ q.pars.length then 2 else first (placeE L) x.pl
    | none => 1)
  else if x.kind = 10 \/ x.kind = 11 then 0 else 3 := by cases x; rfl
def _root_.Go.Abs.AC.snd : AC -> AC
 | .seq _ b => b
 | _ => .skip
def End (g : AF) (BB : List Blk) (v : AV) (r : Ex × St) : Prop := (∀ i,r.1 ≠ .exit i) /\ (∃ bs,r.2.mem = { blks := BB ++ bs,touched := [] }) /\ ∃ l,gets r.2 g.results = some l /\ frz r.2.mem.blks BB.length 8 (tupled l) = v
section
variable {BB : List Blk} {ck id : Nat} {cps : Cap} {ps : List Prc} {own : Nat} {b nb : Int} {es : List Nme} {L : Look} {x : Stp} {s1 : St}
variable (h1 : getE s1.env 0 = .gptr ck 0) (h2 : getE s1.env 4 = .lptr 4 0 0) (h3 : lget s1.loc 4 = some (0,.cells [.map id,.int .i64 b])) (h4 : getE s1.env 5 = .gptr BB.length 0) (h5 : s1.mem = { blks := BB ++ [.cells x.cells],touched := [] })
 (hid : (BB ++ [.cells x.cells])[id]? = some (.map (es.map entAV))) (hck : (BB ++ [.cells x.cells])[ck]? = some (.cells [.list cps (ps.map Prc.av),.int .i64 own,.int .i64 nb])) (hxx : (BB ++ [.cells x.cells])[BB.length]? = some (.cells x.cells)) (hs : LScope es b nb L)
 (e191 : ∀ T,cvl (C u) (.fn (.func 191) [] []) [.agg [.map id,.int .i64 b],.str x.name] { blks := BB ++ [.cells x.cells],touched := T } = some (.int .i64 (newE L x.name),{ blks := BB ++ [.cells x.cells],touched := T }))
 (e275s : ∀ T,cvl (C u) (.fn (.func 275) [] []) [.agg [.map id,.int .i64 b],.agg x.size.four] { blks := BB ++ [.cells x.cells],touched := T } = some (.int .i64 (x.size.err (mayOf L) 1),{ blks := BB ++ [.cells x.cells],touched := T }))
 (e275t : ∀ T,cvl (C u) (.fn (.func 275) [] []) [.agg [.map id,.int .i64 b],.agg x.to.four] { blks := BB ++ [.cells x.cells],touched := T } = some (.int .i64 (x.to.err (mayOf L) 1),{ blks := BB ++ [.cells x.cells],touched := T }))
 (e274 : ∀ p ∈ x.pl,∀ T,cvl (C u) (.fn (.func 274) [] []) [.agg [.map id,.int .i64 b],p.av] { blks := BB ++ [.cells x.cells],touched := T } = some (.int .i64 (placeE L p),{ blks := BB ++ [.cells x.cells],touched := T }))
 (e273 : ∀ T,cvl (C u) (.fn (.func 273) [] []) [.list x.cp (x.pl.map Plc.av),.fn (.func 274) [.agg [.map id,.int .i64 b]] []] { blks := BB ++ [.cells x.cells],touched := T } = some (.int .i64 (first (placeE L) x.pl),{ blks := BB ++ [.cells x.cells],touched := T }))
 (e66 : ∀ T,cvl (C u) (.fn (.func 66) [] []) [.list cps (ps.map Prc.av),.fn (.func 276) [] [.gptr BB.length 0]] { blks := BB ++ [.cells x.cells],touched := T } = some (.int .i64 (procI ps x.name),{ blks := BB ++ [.cells x.cells],touched := T }))
 (q0 : x.cells.take 1 = [.int .i64 x.kind]) (q1 : x.cells.tail.take 1 = [.int .i64 x.gate]) (q2 : (x.cells.drop 2).take 1 = [.str x.name]) (q3 : (x.cells.drop 3).take 1 = [.list x.cp (x.pl.map Plc.av)]) (q4 : (x.cells.drop 4).take 4 = x.size.four) (q8 : (x.cells.drop 8).take 4 = x.to.four) (kl : x.cells.length = 14)
include h1 h2 h3 h4 h5 hid hck hxx hs e191 e275s e275t e274 e273 e66 q0 q1 q2 q3 q4 q8 kl
theorem s232_1 (hk : x.kind = 1) : Runs (C u).gl (cvl (C u)) c232.snd s1 (End g232 BB (.int .i64 (stepE ps own L x))) := by
 have uu := And.intro h1 (And.intro h2 (And.intro h3 (And.intro h4 (And.intro h5 (And.intro hid (And.intro hck (And.intro hxx (And.intro hs (And.intro e191 (And.intro e275s (And.intro e275t (And.intro e274 (And.intro e273 (And.intro e66 (And.intro q0 (And.intro q1 (And.intro q2 (And.intro q3 (And.intro q4 (And.intro q8 kl))))))))))))))))))))
 clear uu
 obtain ⟨v,hv⟩ : ∃ v,v = stepE ps own L x := ⟨_,rfl⟩
 rw [<- hv]
 rw [stepE_eq] at hv
 simp only [hk,if_true] at hv
 rw [hk] at q0
 generalize first (placeE L) x.pl = pe at *
 by_cases hg : x.gate < 1 \/ 12 < x.gate
 ·rw [if_pos hg] at hv
  rcases hg with hg | hg
  ·simp [c232,AC.snd,End,g232,h1,h2,h3,h4,h5,hxx,kl,q0,hv,q1,hg]
  ·have : ¬ x.gate < 1 := by omega
   simp [c232,AC.snd,End,g232,h1,h2,h3,h4,h5,hxx,kl,q0,hv,q1,hg,this]
 ·rw [if_neg hg] at hv
  have g1 : ¬ x.gate < 1 := by omega
  have g2 : ¬ 12 < x.gate := by omega
  have e272 := fun m => f272 (u := u) x.gate (by omega) m
  by_cases hla : x.pl.length = arityN x.gate
  ·have : ((x.pl.length : Int) != (arityN x.gate : Int)) = false := by simp; omega
   simp [c232,AC.snd,End,g232,h1,h2,h3,h4,h5,hxx,kl,q0,hv,q1,q3,g1,g2,e272,chkLoad,isSt,eqRd,AV.beqs,AV.beq,AV.beqs_refl,this,hla,e273]
  ·have : ((x.pl.length : Int) != (arityN x.gate : Int)) = true := by simp; omega
   simp [c232,AC.snd,End,g232,h1,h2,h3,h4,h5,hxx,kl,q0,hv,q1,q3,g1,g2,e272,chkLoad,isSt,eqRd,AV.beqs,AV.beq,AV.beqs_refl,this,hla]
theorem s232_24 (hk : x.kind = 2 \/ x.kind = 4) : Runs (C u).gl (cvl (C u)) c232.snd s1 (End g232 BB (.int .i64 (stepE ps own L x))) := by
 have uu := And.intro h1 (And.intro h2 (And.intro h3 (And.intro h4 (And.intro h5 (And.intro hid (And.intro hck (And.intro hxx (And.intro hs (And.intro e191 (And.intro e275s (And.intro e275t (And.intro e274 (And.intro e273 (And.intro e66 (And.intro q0 (And.intro q1 (And.intro q2 (And.intro q3 (And.intro q4 (And.intro q8 kl))))))))))))))))))))
 clear uu
 obtain ⟨v,hv⟩ : ∃ v,v = stepE ps own L x := ⟨_,rfl⟩
 rw [<- hv]
 rw [stepE_eq] at hv
 have hk1 : ¬ x.kind = 1 := by omega
 rw [if_neg hk1,if_pos hk] at hv
 generalize newE L x.name = ne at *
 generalize x.size.err (mayOf L) 1 = se at *
 rcases hk with hk | hk <;> rw [hk] at q0
 ·by_cases hn : ne = 0
  ·subst hn
   by_cases hz : se = 0
   ·subst hz; simp [c232,AC.snd,End,g232,h1,h2,h3,h4,h5,hxx,kl,q0,hv,q2,q4,q8,e191,e275s,e275t]
   ·simp [c232,AC.snd,End,g232,h1,h2,h3,h4,h5,hxx,kl,q0,hv,q2,q4,e191,e275s,bne_true hz]
  ·simp [c232,AC.snd,End,g232,h1,h2,h3,h4,h5,hxx,kl,q0,hv,q2,e191,bne_true hn,hn]
 ·by_cases hn : ne = 0
  ·subst hn
   by_cases hz : se = 0
   ·subst hz; simp [c232,AC.snd,End,g232,h1,h2,h3,h4,h5,hxx,kl,q0,hv,q2,q4,q8,e191,e275s,e275t]
   ·simp [c232,AC.snd,End,g232,h1,h2,h3,h4,h5,hxx,kl,q0,hv,q2,q4,e191,e275s,bne_true hz]
  ·simp [c232,AC.snd,End,g232,h1,h2,h3,h4,h5,hxx,kl,q0,hv,q2,e191,bne_true hn,hn]
theorem s232_8 (hk : x.kind = 8) : Runs (C u).gl (cvl (C u)) c232.snd s1 (End g232 BB (.int .i64 (stepE ps own L x))) := by
 have uu := And.intro h1 (And.intro h2 (And.intro h3 (And.intro h4 (And.intro h5 (And.intro hid (And.intro hck (And.intro hxx (And.intro hs (And.intro e191 (And.intro e275s (And.intro e275t (And.intro e274 (And.intro e273 (And.intro e66 (And.intro q0 (And.intro q1 (And.intro q2 (And.intro q3 (And.intro q4 (And.intro q8 kl))))))))))))))))))))
 clear uu
 obtain ⟨v,hv⟩ : ∃ v,v = stepE ps own L x := ⟨_,rfl⟩
 rw [<- hv]
 rw [stepE_eq] at hv
 simp [hk] at hv
 rw [hk] at q0
 generalize newE L x.name = ne at *
 generalize x.size.err (mayOf L) 1 = se at *
 generalize x.to.err (mayOf L) 1 = te at *
 by_cases hn : ne = 0
 ·subst hn
  by_cases hz : se = 0
  ·subst hz; simp [c232,AC.snd,End,g232,h1,h2,h3,h4,h5,hxx,kl,q0,hv,q2,q4,q8,e191,e275s,e275t]
  ·simp [c232,AC.snd,End,g232,h1,h2,h3,h4,h5,hxx,kl,q0,hv,q2,q4,e191,e275s,bne_true hz,hz]
 ·simp [c232,AC.snd,End,g232,h1,h2,h3,h4,h5,hxx,kl,q0,hv,q2,e191,bne_true hn,hn]
theorem s232_3 (hk : x.kind = 3) : Runs (C u).gl (cvl (C u)) c232.snd s1 (End g232 BB (.int .i64 (stepE ps own L x))) := by
 have uu := And.intro h1 (And.intro h2 (And.intro h3 (And.intro h4 (And.intro h5 (And.intro hid (And.intro hck (And.intro hxx (And.intro hs (And.intro e191 (And.intro e275s (And.intro e275t (And.intro e274 (And.intro e273 (And.intro e66 (And.intro q0 (And.intro q1 (And.intro q2 (And.intro q3 (And.intro q4 (And.intro q8 kl))))))))))))))))))))
 clear uu
 obtain ⟨v,hv⟩ : ∃ v,v = stepE ps own L x := ⟨_,rfl⟩
 rw [<- hv]
 rw [stepE_eq] at hv
 simp [hk] at hv
 rw [hk] at q0
 rcases scL_cases hs x.name with ⟨j1,j2⟩ | ⟨w,d,j1,hw,j2⟩
 ·simp [c232,AC.snd,End,g232,h1,h2,h3,h4,h5,hxx,kl,q0,hv,q2,hid,isKey,j1,j2]
 ·rw [j2] at hv
  rcases hw with rfl | rfl | rfl
  ·by_cases hd : d = b
   ·subst hd; simp [c232,AC.snd,End,g232,h1,h2,h3,h4,h5,hxx,kl,q0,hv,q2,hid,isKey,j1,lookL,fills,eqCells]
   ·simp [c232,AC.snd,End,g232,h1,h2,h3,h4,h5,hxx,kl,q0,hv,q2,hid,isKey,j1,lookL,fills,eqCells,hd]
  ·simp [c232,AC.snd,End,g232,h1,h2,h3,h4,h5,hxx,kl,q0,hv,q2,hid,isKey,j1,lookL]
  ·simp [c232,AC.snd,End,g232,h1,h2,h3,h4,h5,hxx,kl,q0,hv,q2,hid,isKey,j1,lookL]
theorem s232_5 (hk : x.kind = 5) : Runs (C u).gl (cvl (C u)) c232.snd s1 (End g232 BB (.int .i64 (stepE ps own L x))) := by
 have uu := And.intro h1 (And.intro h2 (And.intro h3 (And.intro h4 (And.intro h5 (And.intro hid (And.intro hck (And.intro hxx (And.intro hs (And.intro e191 (And.intro e275s (And.intro e275t (And.intro e274 (And.intro e273 (And.intro e66 (And.intro q0 (And.intro q1 (And.intro q2 (And.intro q3 (And.intro q4 (And.intro q8 kl))))))))))))))))))))
 clear uu
 obtain ⟨v,hv⟩ : ∃ v,v = stepE ps own L x := ⟨_,rfl⟩
 rw [<- hv]
 rw [stepE_eq] at hv
 simp [hk] at hv
 rw [hk] at q0
 generalize hpl : x.pl = pl at *
 rcases pl with _ | ⟨p,_ | ⟨q,rest⟩⟩
 ·simp [c232,AC.snd,End,g232,h1,h2,h3,h4,h5,hxx,kl,q0,hv,q3]
 ·have e := e274 p (by simp)
  simp only [Plc.av] at e
  simp at hv
  by_cases hz : placeE L p = 0
  ·rw [hz] at e
   rw [if_pos hz] at hv
   rcases scL_cases hs x.name with ⟨j1,j2⟩ | ⟨w,d,j1,hw,j2⟩
   ·rw [j2] at hv
    by_cases hn : newE L x.name = 0
    ·rw [hn] at e191 hv
     simp [c232,AC.snd,End,g232,h1,h2,h3,h4,h5,hxx,kl,q0,hv,q2,q3,Plc.av,e,e191,hid,isKey,j1]
    ·simp [c232,AC.snd,End,g232,h1,h2,h3,h4,h5,hxx,kl,q0,hv,q2,q3,Plc.av,e,e191,hid,isKey,j1,bne_true hn]
   ·by_cases hn : newE L x.name = 0
    ·have := (newE_zero hn).2
     rw [j2] at this
     rcases hw with rfl | rfl | rfl <;> simp [lookL] at this
    ·rw [j2] at hv
     rcases hw with rfl | rfl | rfl <;> simp [c232,AC.snd,End,g232,h1,h2,h3,h4,h5,hxx,kl,q0,hv,q2,q3,Plc.av,e,e191,hid,isKey,j1,bne_true hn,lookL]
  ·rw [if_neg hz] at hv
   simp [c232,AC.snd,End,g232,h1,h2,h3,h4,h5,hxx,kl,q0,hv,q3,Plc.av,e,bne_true hz]
 ·have : ((rest.length : Int) + 1 + 1 != 1) = true := by simp; omega
  simp [c232,AC.snd,End,g232,h1,h2,h3,h4,h5,hxx,kl,q0,hv,q3,this]
theorem s232_6 (hk : x.kind = 6) : Runs (C u).gl (cvl (C u)) c232.snd s1 (End g232 BB (.int .i64 (stepE ps own L x))) := by
 have uu := And.intro h1 (And.intro h2 (And.intro h3 (And.intro h4 (And.intro h5 (And.intro hid (And.intro hck (And.intro hxx (And.intro hs (And.intro e191 (And.intro e275s (And.intro e275t (And.intro e274 (And.intro e273 (And.intro e66 (And.intro q0 (And.intro q1 (And.intro q2 (And.intro q3 (And.intro q4 (And.intro q8 kl))))))))))))))))))))
 clear uu
 obtain ⟨v,hv⟩ : ∃ v,v = stepE ps own L x := ⟨_,rfl⟩
 rw [<- hv]
 rw [stepE_eq] at hv
 simp [hk] at hv
 rw [hk] at q0
 generalize hpl : x.pl = pl at *
 rcases pl with _ | ⟨p,_ | ⟨q,rest⟩⟩
 ·simp [c232,AC.snd,End,g232,h1,h2,h3,h4,h5,hxx,kl,q0,hv,q3]
 ·have e := e274 p (by simp)
  simp only [Plc.av] at e
  simp at hv
  by_cases hz : placeE L p = 0
  ·rw [hz] at e hv
   simp [c232,AC.snd,End,g232,h1,h2,h3,h4,h5,hxx,kl,q0,hv,q3,q2,e191,Plc.av,e]
  ·simp [c232,AC.snd,End,g232,h1,h2,h3,h4,h5,hxx,kl,q0,hv,q3,Plc.av,e,bne_true hz]
 ·have : ((rest.length : Int) + 1 + 1 != 1) = true := by simp; omega
  simp [c232,AC.snd,End,g232,h1,h2,h3,h4,h5,hxx,kl,q0,hv,q3,this]
theorem s232_7 (hk : x.kind = 7) : Runs (C u).gl (cvl (C u)) c232.snd s1 (End g232 BB (.int .i64 (stepE ps own L x))) := by
 have uu := And.intro h1 (And.intro h2 (And.intro h3 (And.intro h4 (And.intro h5 (And.intro hid (And.intro hck (And.intro hxx (And.intro hs (And.intro e191 (And.intro e275s (And.intro e275t (And.intro e274 (And.intro e273 (And.intro e66 (And.intro q0 (And.intro q1 (And.intro q2 (And.intro q3 (And.intro q4 (And.intro q8 kl))))))))))))))))))))
 clear uu
 obtain ⟨v,hv⟩ : ∃ v,v = stepE ps own L x := ⟨_,rfl⟩
 rw [<- hv]
 rw [stepE_eq] at hv
 simp [hk] at hv
 rw [hk] at q0
 rcases scL_cases hs x.name with ⟨j1,j2⟩ | ⟨w,d,j1,hw,j2⟩
 ·simp [c232,AC.snd,End,g232,h1,h2,h3,h4,h5,hxx,kl,q0,hv,q2,hid,isKey,j1,j2]
 ·rw [j2] at hv
  rcases hw with rfl | rfl | rfl <;> simp [c232,AC.snd,End,g232,h1,h2,h3,h4,h5,hxx,kl,q0,hv,q2,hid,isKey,j1,lookL]
theorem s232_9 (hk : x.kind = 9) : Runs (C u).gl (cvl (C u)) c232.snd s1 (End g232 BB (.int .i64 (stepE ps own L x))) := by
 have uu := And.intro h1 (And.intro h2 (And.intro h3 (And.intro h4 (And.intro h5 (And.intro hid (And.intro hck (And.intro hxx (And.intro hs (And.intro e191 (And.intro e275s (And.intro e275t (And.intro e274 (And.intro e273 (And.intro e66 (And.intro q0 (And.intro q1 (And.intro q2 (And.intro q3 (And.intro q4 (And.intro q8 kl))))))))))))))))))))
 clear uu
 obtain ⟨v,hv⟩ : ∃ v,v = stepE ps own L x := ⟨_,rfl⟩
 rw [<- hv]
 rw [stepE_eq] at hv
 simp [hk] at hv
 rw [hk] at q0
 rcases procI_cases ps x.name with ⟨j1,j2⟩ | ⟨n,q,j1,j2,j3,j4⟩
 ·rw [j1] at e66
  simp [c232,AC.snd,End,g232,h1,h2,h3,h4,h5,hxx,kl,q0,hv,q2,hck,e66,j2]
 ·rw [j1] at e66
  have hn0 : ¬ (n : Int) < 0 := by omega
  by_cases ho : own <= n
  ·have ho' : (own : Int) <= (n : Int) := by omega
   simp [c232,AC.snd,End,g232,h1,h2,h3,h4,h5,hxx,kl,q0,hv,q2,hck,e66,j2,hn0,ho,ho']
  ·have ho' : ¬ (own : Int) <= (n : Int) := by omega
   have j3' : ps[n] = q := by rw [List.getElem?_eq_getElem j4] at j3; simpa using j3
   by_cases hlq : x.pl.length = q.pars.length
   ·have : ((x.pl.length : Int) != (q.pars.length : Int)) = false := by simp; omega
    simp [c232,AC.snd,End,g232,h1,h2,h3,h4,h5,hxx,kl,q0,hv,q2,q3,hck,e66,j2,hn0,ho,ho',j3,j3',j4,Prc.av,this,hlq,e273]
   ·have : ((x.pl.length : Int) != (q.pars.length : Int)) = true := by simp; omega
    simp [c232,AC.snd,End,g232,h1,h2,h3,h4,h5,hxx,kl,q0,hv,q2,q3,hck,e66,j2,hn0,ho,ho',j3,j3',j4,Prc.av,this,hlq]
theorem s232_10 (hk : x.kind = 10 \/ x.kind = 11) : Runs (C u).gl (cvl (C u)) c232.snd s1 (End g232 BB (.int .i64 (stepE ps own L x))) := by
 have uu := And.intro h1 (And.intro h2 (And.intro h3 (And.intro h4 (And.intro h5 (And.intro hid (And.intro hck (And.intro hxx (And.intro hs (And.intro e191 (And.intro e275s (And.intro e275t (And.intro e274 (And.intro e273 (And.intro e66 (And.intro q0 (And.intro q1 (And.intro q2 (And.intro q3 (And.intro q4 (And.intro q8 kl))))))))))))))))))))
 clear uu
 obtain ⟨v,hv⟩ : ∃ v,v = stepE ps own L x := ⟨_,rfl⟩
 rw [<- hv]
 rw [stepE_eq] at hv
 rcases hk with hk | hk
 ·rw [hk] at q0; simp [hk] at hv; simp [c232,AC.snd,End,g232,h1,h2,h3,h4,h5,hxx,kl,q0,hv]
 ·rw [hk] at q0; simp [hk] at hv; simp [c232,AC.snd,End,g232,h1,h2,h3,h4,h5,hxx,kl,q0,hv]
theorem s232_0 (hk : ¬ (x.kind = 1 \/ x.kind = 2 \/ x.kind = 3 \/ x.kind = 4 \/ x.kind = 5 \/ x.kind = 6 \/ x.kind = 7 \/ x.kind = 8 \/ x.kind = 9 \/ x.kind = 10 \/ x.kind = 11)) : Runs (C u).gl (cvl (C u)) c232.snd s1 (End g232 BB (.int .i64 (stepE ps own L x))) := by
 have uu := And.intro h1 (And.intro h2 (And.intro h3 (And.intro h4 (And.intro h5 (And.intro hid (And.intro hck (And.intro hxx (And.intro hs (And.intro e191 (And.intro e275s (And.intro e275t (And.intro e274 (And.intro e273 (And.intro e66 (And.intro q0 (And.intro q1 (And.intro q2 (And.intro q3 (And.intro q4 (And.intro q8 kl))))))))))))))))))))
 clear uu
 obtain ⟨v,hv⟩ : ∃ v,v = stepE ps own L x := ⟨_,rfl⟩
 rw [<- hv]
 rw [stepE_eq] at hv
 simp only [not_or] at hk
 obtain ⟨hk1,h24,hk3,h44,hk5,hk6,hk7,hk8,hk9,hk10,hk11⟩ := hk
 simp [hk1,h24,h44,hk3,hk5,hk6,hk7,hk8,hk9,hk10,hk11] at hv
 simp [c232,AC.snd,End,g232,h1,h2,h3,h4,h5,hxx,kl,q0,hv,ne_true hk1,ne_true h24,ne_true h44,ne_true hk3,ne_true hk5,ne_true hk6,ne_true hk7,ne_true hk8,ne_true hk9,ne_true hk10,ne_true hk11]
end
theorem f232 {B : List Blk} {ck id : Nat} (cps : Cap) (hcps : okCap cps) (ps : List Prc) (hps : ∀ x ∈ ps,x.Ok) (hpl : ps.length < 1000000000000) (own : Nat) (b nb : Int) (es : List Nme) (L : Look)
  (hck : B[ck]? = some (.cells [.list cps (ps.map Prc.av),.int .i64 own,.int .i64 nb])) (hid : B[id]? = some (.map (es.map entAV))) (hs : LScope es b nb L) (x : Stp) (hx : x.Ok) (hxw : x.wt < 1000000000000) (ext : List Blk) (T : List Nat) :
  cvl (C u) (.fn (.func 232) [] []) [.gptr ck 0,scAV id b,x.av] { blks := B ++ ext,touched := T } = some (.int .i64 (stepE ps own L x),{ blks := B ++ ext,touched := T }) := by
 have hlt : id < B.length := by
  rcases Nat.lt_or_ge id B.length with h | h
  ·exact h
  ·rw [List.getElem?_eq_none h] at hid; cases hid
 have hltc : ck < B.length := by
  rcases Nat.lt_or_ge ck B.length with h | h
  ·exact h
  ·rw [List.getElem?_eq_none h] at hck; cases hck
 have hid' : ((B ++ ext) ++ [Blk.cells x.cells])[id]? = some (.map (es.map entAV)) := by rw [List.getElem?_append_left (by simp; omega),List.getElem?_append_left hlt]; exact hid
 have hck' : ((B ++ ext) ++ [Blk.cells x.cells])[ck]? = some (.cells [.list cps (ps.map Prc.av),.int .i64 own,.int .i64 nb]) := by rw [List.getElem?_append_left (by simp; omega),List.getElem?_append_left hltc]; exact hck
 have hx' : ((B ++ ext) ++ [Blk.cells x.cells])[(B ++ ext).length]? = some (.cells x.cells) := by simp
 have hlt' : id < (B ++ ext).length := by simp; omega
 have hltc' : ck < (B ++ ext).length := by simp; omega
 have q0 := cell0 x
 have q2 := cell2 x
 have kl := Stp.cells_len x
 have hnc : x.cells.map nol = x.cells := by rw [<- nols_eq,Stp.nol_cells]
 generalize hBB : B ++ ext = BB at *
 refine call_runs (g := g232) (by rfl) (by rfl) (by rfl) ?_
 have henv : [AV.gptr ck 0,scAV id b,x.av].map (exp BB.length false) = [.gptr ck 0,scAV id b,x.av] := by
  simp only [List.map_cons,List.map_nil,Stp.exp_av _ _ _ hx,scAV,exp,exps,hlt',hltc',if_true]
 simp only [henv,g232,c232]
 have e191 := fun m' => f191 (u := u) hid' hs x.name (by cases x; exact hx.1) [] m'
 simp only [List.append_nil] at e191
 have hnl : ∀ M : Mem,M.nol = nol := fun _ => rfl
 let K : St -> Prop := fun st => getE st.env 0 = .gptr ck 0 /\ getE st.env 4 = .lptr 4 0 0 /\ lget st.loc 4 = some (0,.cells [.map id,.int .i64 b]) /\ getE st.env 5 = .gptr BB.length 0 /\ st.mem = { blks := BB ++ [.cells x.cells],touched := [] }
 refine Runs.seq' (M := K) (by simp [K,scAV,Stp.av,newVer,kl,Mem.push,hnl,nol,hnc]) fun s1 ⟨h1,h2,h3,h4,h5⟩ => ?_
 have hst : x.size.Ok2 /\ x.to.Ok2 /\ okCap x.cp /\ (∀ p ∈ x.pl,p.Ok) /\ plcsW x.pl + x.size.cnt + x.to.cnt < 1000000000000 := by
  obtain ⟨k,g,nm,cp,pl,size,to,cb,body,ce,els⟩ := x
  simp only [Stp.Ok] at hx
  simp only [Stp.wt] at hxw
  exact ⟨hx.2.2.2.1,hx.2.2.2.2.1,hx.2.1,hx.2.2.1,by simp only [Stp.pl,Stp.size,Stp.to]; omega⟩
 obtain ⟨o1,o2,o3,o4,o5⟩ := hst
 have hplen := plcsW_len x.pl
 have e275s : ∀ T,cvl (C u) (.fn (.func 275) [] []) [.agg [.map id,.int .i64 b],.agg x.size.four] { blks := BB ++ [.cells x.cells],touched := T } = some (.int .i64 (x.size.err (mayOf L) 1),{ blks := BB ++ [.cells x.cells],touched := T }) := fun T => by
  have := f275 (u := u) hid' hs x.size o1.1 o1.2 (by omega) [] [scAV id b,x.size.av] rfl [] T
  rwa [List.append_nil,Idx.av_four] at this
 have e275t : ∀ T,cvl (C u) (.fn (.func 275) [] []) [.agg [.map id,.int .i64 b],.agg x.to.four] { blks := BB ++ [.cells x.cells],touched := T } = some (.int .i64 (x.to.err (mayOf L) 1),{ blks := BB ++ [.cells x.cells],touched := T }) := fun T => by
  have := f275 (u := u) hid' hs x.to o2.1 o2.2 (by omega) [] [scAV id b,x.to.av] rfl [] T
  rwa [List.append_nil,Idx.av_four] at this
 have e274 : ∀ p ∈ x.pl,∀ T,cvl (C u) (.fn (.func 274) [] []) [.agg [.map id,.int .i64 b],p.av] { blks := BB ++ [.cells x.cells],touched := T } = some (.int .i64 (placeE L p),{ blks := BB ++ [.cells x.cells],touched := T }) := fun p hp T => by
  have := f274 (u := u) hid' hs p (o4 p hp) (by have := Plc.wt_mem hp; omega) [] [scAV id b,p.av] rfl [] T
  rwa [List.append_nil] at this
 have hlt3 : id < (BB ++ [Blk.cells x.cells]).length := by simp; omega
 have hfix : Fix (BB ++ [Blk.cells x.cells]).length (.fn (.func 274) [scAV id b] []) := by
  intro k bb hk
  have : id < k := by omega
  simp [exp,exps,Fn.below,scAV,this]
 have e273 : ∀ T,cvl (C u) (.fn (.func 273) [] []) [.list x.cp (x.pl.map Plc.av),.fn (.func 274) [.agg [.map id,.int .i64 b]] []] { blks := BB ++ [.cells x.cells],touched := T } = some (.int .i64 (first (placeE L) x.pl),{ blks := BB ++ [.cells x.cells],touched := T }) := fun T => by
  have := f273 (u := u) (F := placeE L) hfix x.cp o3 x.pl o4 (by omega) (fun p hp => f274 (u := u) hid' hs p (o4 p hp) (by have := Plc.wt_mem hp; omega) [scAV id b] [p.av] rfl) [] T
  rwa [List.append_nil] at this
 have hfix2 : Fix (BB ++ [Blk.cells x.cells]).length (.fn (.func 276) [] [.gptr BB.length 0]) := by
  intro k bb hk
  have : BB.length < k := by simp at hk; omega
  simp [exp,exps,Fn.below,this]
 have e66 : ∀ T,cvl (C u) (.fn (.func 66) [] []) [.list cps (ps.map Prc.av),.fn (.func 276) [] [.gptr BB.length 0]] { blks := BB ++ [.cells x.cells],touched := T } = some (.int .i64 (procI ps x.name),{ blks := BB ++ [.cells x.cells],touched := T }) := fun T => by
  have := f66 (u := u) (q := fun p => p.name == x.name) hfix2 cps hcps ps hps hpl (fun p hp => f276 x hx' p (hps p hp)) [] T
  rwa [List.append_nil] at this
 have q1 := cell1 x
 have q3 := cell3 x
 have q4 := cell4 x
 have q8 := cell8 x
 show Runs (C u).gl (cvl (C u)) c232.snd s1 (End g232 BB (.int .i64 (stepE ps own L x)))
 by_cases j1 : x.kind = 1
 ·exact s232_1 h1 h2 h3 h4 h5 hid' hck' hx' hs e191 e275s e275t e274 e273 e66 q0 q1 q2 q3 q4 q8 kl j1
 by_cases j24 : x.kind = 2 \/ x.kind = 4
 ·exact s232_24 h1 h2 h3 h4 h5 hid' hck' hx' hs e191 e275s e275t e274 e273 e66 q0 q1 q2 q3 q4 q8 kl j24
 by_cases j8 : x.kind = 8
 ·exact s232_8 h1 h2 h3 h4 h5 hid' hck' hx' hs e191 e275s e275t e274 e273 e66 q0 q1 q2 q3 q4 q8 kl j8
 by_cases j3 : x.kind = 3
 ·exact s232_3 h1 h2 h3 h4 h5 hid' hck' hx' hs e191 e275s e275t e274 e273 e66 q0 q1 q2 q3 q4 q8 kl j3
 by_cases j5 : x.kind = 5
 ·exact s232_5 h1 h2 h3 h4 h5 hid' hck' hx' hs e191 e275s e275t e274 e273 e66 q0 q1 q2 q3 q4 q8 kl j5
 by_cases j6 : x.kind = 6
 ·exact s232_6 h1 h2 h3 h4 h5 hid' hck' hx' hs e191 e275s e275t e274 e273 e66 q0 q1 q2 q3 q4 q8 kl j6
 by_cases j7 : x.kind = 7
 ·exact s232_7 h1 h2 h3 h4 h5 hid' hck' hx' hs e191 e275s e275t e274 e273 e66 q0 q1 q2 q3 q4 q8 kl j7
 by_cases j9 : x.kind = 9
 ·exact s232_9 h1 h2 h3 h4 h5 hid' hck' hx' hs e191 e275s e275t e274 e273 e66 q0 q1 q2 q3 q4 q8 kl j9
 by_cases j10 : x.kind = 10 \/ x.kind = 11
 ·exact s232_10 h1 h2 h3 h4 h5 hid' hck' hx' hs e191 e275s e275t e274 e273 e66 q0 q1 q2 q3 q4 q8 kl j10
 exact s232_0 h1 h2 h3 h4 h5 hid' hck' hx' hs e191 e275s e275t e274 e273 e66 q0 q1 q2 q3 q4 q8 kl (by omega)
end Go.Abs.Tz
