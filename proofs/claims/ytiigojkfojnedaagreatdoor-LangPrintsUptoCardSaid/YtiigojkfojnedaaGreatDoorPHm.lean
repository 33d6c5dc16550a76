/- A text of this proof. -/
import Derived.Test.YtiigojkfojnedaaGreatDoorPHl
set_option linter.unusedVariables false
set_option linter.unusedSimpArgs false
set_option maxRecDepth 100000
set_option maxHeartbeats 8000000
namespace Go.Abs.Tz
open Go.Abs
variable {u : Nat}
attribute [local simp] exec aops astep wantedA aop evO setO setU getE getE_setE lget lget_lset aBin aInt aUn AV.cells newVar padd rd wr asElem single splice aStr adraw ascan Runs gets RV.get tupled frz_int frz_bool
theorem Runs.fin {gl : Nat -> AV} {c : CallV} {a : AC} {s : St} {Q : Ex × St -> Prop} {M : St -> Prop} (ex : Ex) (h : ∃ s',exec gl c lpl a s = some (ex,s') /\ M s') (k : ∀ s',M s' -> Q (ex,s')) : Runs gl c a s Q := by
 obtain ⟨s',h1,h2⟩ := h
 exact ⟨_,h1,k s' h2⟩
theorem call_prim {C : Cfg} {f : FuncId} {p : Prim} {fst args cap : List AV} {m : Mem} {r : AV × Mem} (hp : C.prim f = some p) (h : p ((fst ++ args ++ cap).map (exp m.blks.length (C.keep f))) m = some r) : cvl C (.fn (.func f) fst cap) args m = some r := by
 apply cvl_body
 simp only [body,hp,h]
theorem get_lt {α : Type} {l : List α} {i : Nat} {x : α} (h : l[i]? = some x) : i < l.length := by
 rcases Nat.lt_or_ge i l.length with hl | hl
 ·exact hl
 ·rw [List.getElem?_eq_none hl] at h; cases h
theorem f277 (m : Mem) (id : Nat) (es : List (AV × AV)) (hid : m.blks[id]? = some (.map es)) : cvl (C u) (.fn (.func 277) [] []) [.map id] m = some (.map m.blks.length,m.push (.map es)) := by
 have hlt := get_lt hid
 refine call_prim (p := pClone) (by rfl) ?_
 have he : ∀ k,([] ++ [AV.map id] ++ []).map (exp m.blks.length k) = [.map id] := fun k => by simp [exp,hlt]
 rw [he]
 simp only [pClone,hid]
theorem f233 {ck id : Nat} {pr ow : AV} {b : Int} {nb : Nat} {es : List Nme} (m : Mem) (hck : m.blks[ck]? = some (.cells [pr,ow,.int .i64 nb])) (hid : m.blks[id]? = some (.map (es.map entAV))) (nm : List Nat) (w d : Int) (hnb : nb < 1000000000000) :
  cvl (C u) (.fn (.func 233) [] []) [.gptr ck 0,scAV id b,.str nm,.agg [.int .i64 w,.int .i64 d]] m =
   some (scAV m.blks.length nb,{ blks := m.blks.set ck (.cells [pr,ow,.int .i64 (nb + 1 : Nat)]) ++ [.map ((if nm = [] then es else putN es nm w d).map entAV)],touched := m.touched }) := by
 have hlc := get_lt hck
 have hli := get_lt hid
 have e277 := f277 (u := u) { blks := m.blks,touched := [] } id (es.map entAV) hid
 have hw : IntKind.wrap .i64 ((nb : Int) + 1) = (nb : Int) + 1 := wrap_i64 (by omega) (by omega)
 refine keep_runs (g := g233) (by rfl) (by rfl) (by rfl) ?_ rfl
 have henv : ([AV.gptr ck 0,scAV id b,.str nm,.agg [.int .i64 w,.int .i64 d]] ++ []).map (exp m.blks.length true) = [AV.gptr ck 0,.agg [.map id,.int .i64 b],.str nm,.agg [.int .i64 w,.int .i64 d]] := by
  simp only [List.append_nil,List.map_cons,List.map_nil,scAV,exp,exps,hlc,hli,if_true]
 rw [henv]
 simp only [g233,c233]
 have hnl : ∀ M : Mem,M.nol = nol := fun _ => rfl
 let K : St -> Prop := fun st => getE st.env 0 = .gptr ck 0 /\ getE st.env 2 = .str nm /\ getE st.env 7 = .lptr 7 0 0 /\ lget st.loc 7 = some (0,.cells [.int .i64 w,.int .i64 d]) /\ getE st.env 8 = .lptr 8 0 0 /\ lget st.loc 8 = some (0,.cells [.nilmap,.int .i64 0])
 refine Runs.seq' (M := fun st => K st /\ getE st.env 5 = .lptr 5 0 0 /\ lget st.loc 5 = some (0,.cells [.map id,.int .i64 b]) /\ st.mem = { blks := m.blks,touched := [] }) (by simp [K,newVer]) fun s1 ⟨⟨h1,h2,h3,h4,h5,h6⟩,h7,h8,h9⟩ => ?_
 simp only [Mem.push] at e277
 have k1 : (m.blks ++ [Blk.map (es.map entAV)])[ck]? = some (.cells [pr,ow,.int .i64 nb]) := by rw [List.getElem?_append_left hlc]; exact hck
 let K2 : St -> Prop := fun st => K st /\ ∃ v,getE st.env 9 = .lptr 9 v 0 /\ lget st.loc 9 = some (v,.cells [.map m.blks.length,.int .i64 nb])
 refine Runs.seq' (M := fun st => K2 st /\ st.mem = { blks := m.blks ++ [.map (es.map entAV)],touched := [] }) (by
  simp [K2,K,h1,h2,h3,h4,h5,h6,h7,h8,h9,e277,k1,hck,chkLoad,chkNew,isSt,eqRd,AV.beqs,AV.beq,AV.beq_refl,fills]) fun s1 ⟨⟨⟨h1,h2,h3,h4,h5,h6⟩,v,h7,h8⟩,h9⟩ => ?_
 have hA : (m.blks.set ck (.cells [pr,ow,.int .i64 ((nb : Int) + 1)])).length = m.blks.length := by simp
 have hset : (m.blks ++ [Blk.map (es.map entAV)]).set ck (.cells [pr,ow,.int .i64 ((nb : Int) + 1)]) = m.blks.set ck (.cells [pr,ow,.int .i64 ((nb : Int) + 1)]) ++ [.map (es.map entAV)] := List.set_append_left _ _ hlc
 generalize hAe : m.blks.set ck (.cells [pr,ow,.int .i64 ((nb : Int) + 1)]) = A at *
 refine Runs.seq' (M := fun st => K2 st /\ st.mem = { blks := A ++ [.map (es.map entAV)],touched := [] }) (by
  simp [K2,K,h1,h2,h3,h4,h5,h6,h7,h8,h9,k1,hw,Mem.put,hnl,nol,los,lo,hset]) fun s1 ⟨⟨⟨h1,h2,h3,h4,h5,h6⟩,v,h7,h8⟩,h9⟩ => ?_
 have k2 : (A ++ [Blk.map (es.map entAV)])[m.blks.length]? = some (.map (es.map entAV)) := by rw [<- hA]; simp
 have k3 : ∀ y,(A ++ [Blk.map (es.map entAV)]).set m.blks.length y = A ++ [y] := fun y => by rw [<- hA]; simp
 have hcast : ((nb + 1 : Nat) : Int) = (nb : Int) + 1 := by omega
 rw [hcast,hAe]
 have hml : m.blks.length < A.length + 1 := by omega
 refine Runs.seq' (M := fun st => K2 st /\ st.mem = { blks := A ++ [.map ((if nm = [] then es else putN es nm w d).map entAV)],touched := [] }) (by
  by_cases hn : nm = []
  ·simp [K2,K,h1,h2,h3,h4,h5,h6,h7,h8,h9,hn]
  ·simp [K2,K,h1,h2,h3,h4,h5,h6,h7,h8,h9,hn,k2,k3,isKey,plain,plains,mset_ents,Mem.put]) fun s1 ⟨⟨⟨h1,h2,h3,h4,h5,h6⟩,v,h7,h8⟩,h9⟩ => ?_
 simp [h1,h2,h3,h4,h5,h6,h7,h8,h9,exp,exps,scAV,hml]
theorem set_same {α : Type} {l : List α} {i : Nat} {x : α} (h : l[i]? = some x) : l.set i x = l := by
 have hl := get_lt h
 rw [List.getElem?_eq_getElem hl] at h
 have : l[i] = x := by simpa using h
 rw [<- this]; exact List.set_getElem_self hl
def bM (B : List Blk) (ck id : Nat) (pr ow : AV) (nb : Nat) (es : List Nme) : List Blk := (B.set ck (.cells [pr,ow,.int .i64 nb])).set id (.map (es.map entAV))
section
variable {B : List Blk} {ck id : Nat} {pr ow : AV} {nb : Nat} {es : List Nme} (hc : ck < B.length) (hi : id < B.length) (hne : ck ≠ id)
theorem bM_len : (bM B ck id pr ow nb es).length = B.length := by simp [bM]
include hc hi hne
theorem bM_ck (ext : List Blk) : (bM B ck id pr ow nb es ++ ext)[ck]? = some (.cells [pr,ow,.int .i64 nb]) := by
 have uu := And.intro hc (And.intro hi hne)
 clear uu
 rw [List.getElem?_append_left (by simp [bM]; omega)]
 simp [bM,List.getElem?_set,Ne.symm hne,hc]
theorem bM_id (ext : List Blk) : (bM B ck id pr ow nb es ++ ext)[id]? = some (.map (es.map entAV)) := by
 have uu := And.intro hc (And.intro hi hne)
 clear uu
 rw [List.getElem?_append_left (by simp [bM]; omega)]
 simp [bM,List.getElem?_set,hi]
theorem bM_setc (ext : List Blk) (n : Nat) : (bM B ck id pr ow nb es ++ ext).set ck (.cells [pr,ow,.int .i64 n]) = bM B ck id pr ow n es ++ ext := by
 have uu := And.intro hc (And.intro hi hne)
 clear uu
 rw [List.set_append_left _ _ (by simp [bM]; omega)]
 simp only [bM]
 rw [List.set_comm _ _ (Ne.symm hne),List.set_set]
theorem bM_seti (ext : List Blk) (es' : List Nme) : (bM B ck id pr ow nb es ++ ext).set id (.map (es'.map entAV)) = bM B ck id pr ow nb es' ++ ext := by
 have uu := And.intro hc (And.intro hi hne)
 clear uu
 rw [List.set_append_left _ _ (by simp [bM]; omega)]
 simp only [bM,List.set_set]
end
theorem inE_first (ps : List Prc) (own : Nat) (x : Stp) (L : Look) : inE ps own x L = first (fun p : Cap × List Stp => blkE ps own p.2 (inside L x.kind x.name)) x.blocks := by
 rw [inE_eq]
 unfold Stp.blocks
 by_cases he : hasElse x.kind = true
 ·have hb : hasBody x.kind = true := by simp only [hasBody,hasElse,decide_eq_true_eq] at he ⊢; omega
  simp only [he,hb,if_true,first]
  split
  ·rfl
  ·split <;> simp_all
 ·by_cases hb : hasBody x.kind = true
  ·by_cases hz : blkE ps own x.body (inside L x.kind x.name) = 0 <;> simp [he,hb,first,hz]
  ·simp [he,hb,first]
def blksW : List (Cap × List Stp) -> Nat
 | [] => 0
 | p :: l => 1 + Stp.wts p.2 + blksW l
theorem blksW_take (l : List (Cap × List Stp)) (i : Nat) (h : i < l.length) : blksW (l.take (i + 1)) = blksW (l.take i) + (1 + Stp.wts l[i].2) := by
 induction l generalizing i with
 | nil => simp at h
 | cons a l ih =>
  cases i with
  | zero => simp [blksW]
  | succ i => simp only [List.take_succ_cons,blksW,List.getElem_cons_succ,ih i (by simpa using h)]; omega
theorem blksW_le (x : Stp) : blksW x.blocks <= x.wt := by
 have := Stp.wt_ge x
 unfold Stp.blocks
 split
 ·simp only [blksW]; omega
 ·split <;> simp only [blksW] <;> omega
theorem blksW_take_le (l : List (Cap × List Stp)) (i : Nat) : blksW (l.take i) <= blksW l := by
 induction l generalizing i with
 | nil => simp
 | cons a l ih => cases i with
  | zero => simp [blksW]
  | succ i => have := ih i; simp only [List.take_succ_cons,blksW]; omega
theorem wts_stp (l : List Stp) (i : Nat) (h : i < l.length) : Stp.wts (l.take (i + 1)) = Stp.wts (l.take i) + l[i].wt := by
 induction l generalizing i with
 | nil => simp at h
 | cons a l ih =>
  cases i with
  | zero => simp [Stp.wts]
  | succ i => simp only [List.take_succ_cons,Stp.wts,List.getElem_cons_succ,ih i (by simpa using h)]; omega
theorem stepE_nm {ps : List Prc} {own : Nat} {L : Look} {x : Stp} (h : stepE ps own L x = 0) (hk : x.kind = 2 \/ x.kind = 4 \/ x.kind = 8) : x.name ≠ [] := by
 rw [stepE_eq] at h
 have hn : newE L x.name = 0 := by
  rcases hk with hk | hk | hk <;> simp [hk] at h <;> split at h <;> first | assumption | (rename_i hn; exact absurd h hn)
 have := (newE_zero hn).1
 rintro he
 rw [he] at this
 simp [namedB] at this
theorem f193 (cps : Cap) (hcps : okCap cps) (ps : List Prc) (hps : ∀ x ∈ ps,x.Ok) (hpl : ps.length < 1000000000000) (own : Nat) (l : List Stp) :
  ∀ (cb : Cap),okCap cb -> Stp.Oks l -> ∀ (es : List Nme) (L : Look) (b nb ck id : Nat) (m : Mem),m.blks[ck]? = some (.cells [.list cps (ps.map Prc.av),.int .i64 own,.int .i64 nb]) -> m.blks[id]? = some (.map (es.map entAV)) -> LScope es b nb L -> b < nb -> nb + Stp.wts l < 100000000000 →
   ∃ (nb' : Nat) (es' : List Nme),nb <= nb' /\ nb' <= nb + Stp.wts l ∧
    cvl (C u) (.fn (.func 193) [] []) [.gptr ck 0,scAV id b,.list cb (Stp.avs l)] m = some (.int .i64 (blkE ps own l L),{ blks := bM m.blks ck id (.list cps (ps.map Prc.av)) (.int .i64 own) nb' es',touched := m.touched }) := by
 refine Stp.lists (P := fun l => ∀ (cb : Cap),okCap cb -> Stp.Oks l -> ∀ (es : List Nme) (L : Look) (b nb ck id : Nat) (m : Mem),m.blks[ck]? = some (.cells [.list cps (ps.map Prc.av),.int .i64 own,.int .i64 nb]) -> m.blks[id]? = some (.map (es.map entAV)) -> LScope es b nb L -> b < nb -> nb + Stp.wts l < 100000000000 →
   ∃ (nb' : Nat) (es' : List Nme),nb <= nb' /\ nb' <= nb + Stp.wts l ∧
    cvl (C u) (.fn (.func 193) [] []) [.gptr ck 0,scAV id b,.list cb (Stp.avs l)] m = some (.int .i64 (blkE ps own l L),{ blks := bM m.blks ck id (.list cps (ps.map Prc.av)) (.int .i64 own) nb' es',touched := m.touched })) (fun l ih cb hcb hok es L b nb ck id m hck hid hs hb hw => ?_) l
 have hlc := get_lt hck
 have hli := get_lt hid
 have hne : ck ≠ id := by rintro rfl; rw [hck] at hid; cases hid
 have hll := Stp.wts_len l
 let M : Nat -> List Nme -> List Blk := bM m.blks ck id (.list cps (ps.map Prc.av)) (.int .i64 own)
 have hM0 : M nb es = m.blks := by simp only [M,bM]; rw [set_same hck,set_same hid]
 have mck : ∀ n e ext,(M n e ++ ext)[ck]? = some (.cells [.list cps (ps.map Prc.av),.int .i64 own,.int .i64 n]) := fun n e ext => bM_ck hlc hli hne ext
 have mid : ∀ n e ext,(M n e ++ ext)[id]? = some (.map (e.map entAV)) := fun n e ext => bM_id hlc hli hne ext
 have msc : ∀ n e ext (n' : Nat),(M n e ++ ext).set ck (.cells [.list cps (ps.map Prc.av),.int .i64 own,.int .i64 n']) = M n' e ++ ext := fun n e ext n' => bM_setc hlc hli hne ext n'
 have msi : ∀ n e ext e',(M n e ++ ext).set id (.map (e'.map entAV)) = M n e' ++ ext := fun n e ext e' => bM_seti hlc hli hne ext e'
 have mln : ∀ n e,(M n e).length = m.blks.length := fun n e => bM_len
 let Fin : St -> Prop := fun st => ∃ nb' es' ext,nb <= nb' /\ nb' <= nb + Stp.wts l /\ st.mem = { blks := M nb' es' ++ ext,touched := [] }
 have hrun : Runs (C u).gl (cvl (C u)) g193.code { env := ([] ++ [AV.gptr ck 0,scAV id b,.list cb (Stp.avs l)] ++ []).map (exp m.blks.length false),loc := [],mem := { blks := m.blks,touched := [] } } fun r =>
   (∀ i,r.1 ≠ .exit i) /\ Fin r.2 /\ getE r.2.env 6 = .int .i64 (blkE ps own l L) := by
  have henv : ([] ++ [AV.gptr ck 0,scAV id b,.list cb (Stp.avs l)] ++ []).map (exp m.blks.length false) = [AV.gptr ck 0,.agg [.map id,.int .i64 b],.list cb (Stp.avs l)] := by
   simp only [List.nil_append,List.append_nil,List.map_cons,List.map_nil,exp_stps hcb hok]
   simp only [scAV,exp,exps,hlc,hli,if_true]
  rw [henv]
  simp only [g193,c193]
  let K : St -> Prop := fun st => getE st.env 0 = .gptr ck 0 /\ getE st.env 4 = .lptr 4 0 0 /\ lget st.loc 4 = some (0,.cells [.map id,.int .i64 b])
  refine Runs.seq' (M := fun st => K st /\ getE st.env 2 = .list cb (Stp.avs l) /\ st.mem = { blks := m.blks,touched := [] }) (by simp [K,newVer]) fun s1 ⟨⟨h1,h2,h3⟩,h4,h5⟩ => ?_
  refine Runs.seq (M := fun st => Fin st /\ blkE ps own l L = 0) ?_ fun s2 ⟨⟨nb',es',ext,h1,h2,h3⟩,h4⟩ => Runs.fin (M := fun st => st.mem = { blks := M nb' es' ++ ext,touched := [] } /\ getE st.env 6 = .int .i64 0) .ret (by simp [h3]) fun s' ⟨e1,e2⟩ => ⟨by simp,⟨nb',es',ext,h1,h2,e1⟩,by rw [e2,h4]⟩
  let I : Nat -> St -> Prop := fun i st => K st /\ getE st.env 15 = .list cb (Stp.avs l) /\ getE st.env 16 = .int .i64 l.length /\ getE st.env 17 = .int .i64 i /\ ∃ (nbi : Nat) (ei : List Nme) (ext : List Blk) (Li : Look),nb <= nbi /\ nbi <= nb + Stp.wts (l.take i) /\ LScope ei b nbi Li /\ st.mem = { blks := M nbi ei ++ ext,touched := [] } /\ blkE ps own (l.drop i) Li = blkE ps own l L
  refine Runs.seq' (M := fun st => K st /\ getE st.env 15 = .list cb (Stp.avs l) /\ getE st.env 16 = .int .i64 l.length /\ getE st.env 17 = .int .i64 0 /\ st.mem = { blks := m.blks,touched := [] }) (by
   simp [K,h1,h2,h3,h4,h5,stps_len]) fun s4 ⟨a1,a2,a3,a4,a5⟩ => ?_
  have hI : I 0 s4 := ⟨a1,a2,a3,a4,nb,es,[],L,Nat.le_refl _,by simp [Stp.wts],hs,by rw [a5,List.append_nil,hM0],rfl⟩
  refine Runs.block (Runs.upto (I := I) l.length hI (fun i st hlt hst => ?_) (fun st hst => ?_))
  ·obtain ⟨⟨h1,h2,h3⟩,q1,q2,q3,nbi,ei,ext,Li,hn1,hn2,hsi,hmem,hbl⟩ := hst
   have hwi : IntKind.wrap .i64 ((i : Int) + 1) = (i : Int) + 1 := wrap_i64 (by omega) (by omega)
   have hg := stp_get l i hlt
   have hm : l[i] ∈ l := List.getElem_mem hlt
   have hoki := Stp.oks_mem hok _ hm
   have ihy := ih _ hm
   have hws := wts_stp l i hlt
   have hwt := wts_take l (i + 1)
   rw [List.drop_eq_getElem_cons hlt] at hbl
   generalize l[i] = y at *
   have hu : blkE ps own (y :: l.drop (i + 1)) Li = if stepE ps own Li y ≠ 0 then stepE ps own Li y else if inE ps own y Li ≠ 0 then inE ps own y Li else blkE ps own (l.drop (i + 1)) (after Li y.kind y.name) := rfl
   rw [hu] at hbl
   have e232 := f232 (u := u) (B := M nbi ei) cps hcps ps hps hpl own b nbi ei Li (by simpa using mck nbi ei []) (by simpa using mid nbi ei []) hsi y hoki (by omega) ext []
   have e108 := fun m => f108 (u := u) y hoki m
   have k0 := cell0 y
   have k2 := cell2 y
   have kt := cells14 y
   have kl := Stp.cells_len y
   simp only [Stp.av,scAV] at hg e232 e108
   let J : St -> Prop := fun st => K st /\ getE st.env 15 = .list cb (Stp.avs l) /\ getE st.env 16 = .int .i64 l.length /\ getE st.env 17 = .int .i64 i
   let J2 : St -> Prop := fun st => J st /\ ∃ v,getE st.env 8 = .lptr 8 v 0 /\ lget st.loc 8 = some (v,.cells y.cells)
   let MM : Nat -> List Nme -> List Blk -> St -> Prop := fun n e x st => st.mem = { blks := M n e ++ x,touched := [] }
   refine Runs.seq' (M := fun st => J st /\ MM nbi ei ext st /\ getE st.env 18 = .bool true) (by simp [J,K,MM,h1,h2,h3,q1,q2,q3,hmem,hlt]) fun s5 ⟨⟨⟨h1,h2,h3⟩,q1,q2,q3⟩,hmem,q4⟩ => ?_
   refine Runs.seq' (M := fun st => J st /\ MM nbi ei ext st) (by simp only [MM] at hmem; simp [J,K,MM,h1,h2,h3,q1,q2,q3,q4,hmem]) fun s5 ⟨⟨⟨h1,h2,h3⟩,q1,q2,q3⟩,hmem⟩ => ?_
   refine Runs.seq (M := fun st => J st /\ ∃ (n2 : Nat) (e2 : List Nme) (x2 : List Blk),nb <= n2 /\ n2 <= nb + Stp.wts (l.take (i + 1)) /\ LScope e2 b n2 (after Li y.kind y.name) /\ MM n2 e2 x2 st /\ blkE ps own (l.drop (i + 1)) (after Li y.kind y.name) = blkE ps own l L) ?_ fun s6 ⟨⟨⟨h1,h2,h3⟩,q1,q2,q3⟩,n2,e2,x2,a1,a2,a3,a4,a5⟩ => by
    simp only [MM] at a4
    exact Runs.fin (M := fun st => K st /\ getE st.env 15 = .list cb (Stp.avs l) /\ getE st.env 16 = .int .i64 l.length /\ getE st.env 17 = .int .i64 ((i : Int) + 1) /\ MM n2 e2 x2 st) .normal (by simp [K,MM,h1,h2,h3,q1,q2,q3,hwi,a4]) fun s' ⟨b1,b2,b3,b4,b5⟩ => .inl ⟨rfl,b1,b2,b3,b4,n2,e2,x2,_,a1,a2,a3,b5,a5⟩
   refine Runs.block ?_
   refine Runs.seq' (M := fun st => J2 st /\ MM nbi ei ext st) (by simp only [MM] at hmem; simp [J2,J,K,MM,h1,h2,h3,q1,q2,q3,hmem,hlt,hg,kl,kt,stps_len]) fun s5 ⟨⟨⟨⟨h1,h2,h3⟩,q1,q2,q3⟩,v,q4,q5⟩,hmem⟩ => ?_
   simp only [MM] at hmem
   by_cases hse : stepE ps own Li y = 0
   case neg =>
    rw [if_pos hse] at hbl
    rw [hbl] at hse e232
    refine Runs.seq (M := fun _ => False) ?_ fun _ h => h.elim
    refine Runs.fin (M := fun st => MM nbi ei ext st /\ getE st.env 6 = .int .i64 (blkE ps own l L)) .ret (by simp [MM,h1,h2,h3,q1,q2,q3,q4,q5,hmem,kl,kt,e232,bne_true hse,hse]) fun s' ⟨b1,b2⟩ => ?_
    have hf : Fin s' := ⟨nbi,ei,ext,hn1,by omega,b1⟩
    simp [hf,b2]
   rw [if_neg (by simpa using hse)] at hbl
   rw [hse] at e232
   refine Runs.seq' (M := fun st => J2 st /\ MM nbi ei ext st) (by simp [J2,J,K,MM,h1,h2,h3,q1,q2,q3,q4,q5,hmem,kl,kt,e232]) fun s5 ⟨⟨⟨⟨h1,h2,h3⟩,q1,q2,q3⟩,v,q4,q5⟩,hmem⟩ => ?_
   simp only [MM] at hmem
   refine Runs.seq' (M := fun st => J2 st /\ MM nbi ei ext st /\ getE st.env 10 = .str [] /\ ∃ v,getE st.env 11 = .lptr 11 v 0 /\ lget st.loc 11 = some (v,.cells [.int .i64 0,.int .i64 0])) (by simp [J2,J,K,MM,h1,h2,h3,q1,q2,q3,q4,q5,hmem,fills]) fun s5 ⟨⟨⟨⟨h1,h2,h3⟩,q1,q2,q3⟩,v,q4,q5⟩,hmem,q6,v2,q7,q8⟩ => ?_
   simp only [MM] at hmem
   let Nw : List Nat -> Int -> Int -> Prop := fun nm0 w0 d0 => ∀ nbj : Nat,nbi <= nbj -> LScope (if nm0 = [] then ei else putN ei nm0 w0 d0) nbj ((nbj + 1 : Nat) : Int) (inside Li y.kind y.name)
   have hin : ∀ nbj : Nat,nbi <= nbj -> LScope ei nbj ((nbj + 1 : Nat) : Int) Li.inner := fun nbj hj => by
    have := (hsi.mono (show (nbi : Int) <= (nbj : Int) by omega)).inner
    simpa using this
   obtain ⟨nm0,w0,d0,hNw,hsel⟩ : ∃ nm0 w0 d0,Nw nm0 w0 d0 /\ ((y.kind = 4 /\ nm0 = y.name /\ w0 = 1 /\ d0 = -2) \/ (y.kind = 8 /\ nm0 = y.name /\ w0 = 3 /\ d0 = 0) \/ (y.kind ≠ 4 /\ y.kind ≠ 8 /\ nm0 = [] /\ w0 = 0 /\ d0 = 0)) := by
    by_cases h4' : y.kind = 4
    ·have hnn := stepE_nm hse (by omega)
     refine ⟨y.name,1,-2,fun nbj hj => ?_,.inl ⟨h4',rfl,rfl,rfl⟩⟩
     have := (hin nbj hj).put y.name 1 (-2) (by decide) (by omega)
     have hr : decide ((-2 : Int) = (nbj : Int)) = false := by simp
     simpa [inside,h4',hnn,lookL,hr] using this
    ·by_cases h8' : y.kind = 8
     ·have hnn := stepE_nm hse (by omega)
      refine ⟨y.name,3,0,fun nbj hj => ?_,.inr (.inl ⟨h8',rfl,rfl,rfl⟩)⟩
      have := (hin nbj hj).put y.name 3 0 (by decide) (by omega)
      simpa [inside,h8',hnn,lookL] using this
     ·refine ⟨[],0,0,fun nbj hj => ?_,.inr (.inr ⟨h4',h8',rfl,rfl,rfl⟩)⟩
      simpa [inside,h4',h8'] using hin nbj hj
   refine Runs.seq' (M := fun st => J2 st /\ MM nbi ei ext st /\ getE st.env 10 = .str nm0 /\ ∃ v,getE st.env 11 = .lptr 11 v 0 /\ lget st.loc 11 = some (v,.cells [.int .i64 w0,.int .i64 d0])) (by
    rcases hsel with ⟨h4',rfl,rfl,rfl⟩ | ⟨h8',rfl,rfl,rfl⟩ | ⟨h4',h8',rfl,rfl,rfl⟩
    ·simp [J2,J,K,MM,h1,h2,h3,q1,q2,q3,q4,q5,q6,q7,q8,hmem,kl,k0,k2,h4',fills]
    ·simp [J2,J,K,MM,h1,h2,h3,q1,q2,q3,q4,q5,q6,q7,q8,hmem,kl,k0,k2,h8',fills]
    ·simp [J2,J,K,MM,h1,h2,h3,q1,q2,q3,q4,q5,q6,q7,q8,hmem,kl,k0,ne_true h4',ne_true h8']) fun s5 ⟨⟨⟨⟨h1,h2,h3⟩,q1,q2,q3⟩,v,q4,q5⟩,hmem,q6,v2,q7,q8⟩ => ?_
   simp only [MM] at hmem
   let E : Cap × List Stp -> Int := fun p => blkE ps own p.2 (inside Li y.kind y.name)
   rw [inE_first] at hbl
   have hblw := blksW_le y
   refine Runs.seq (M := fun st => J2 st /\ first E y.blocks = 0 /\ ∃ (nbj : Nat) (xj : List Blk),nbi <= nbj /\ nbj <= nbi + y.wt /\ MM nbj ei xj st) ?_ fun s6 ⟨⟨⟨⟨h1,h2,h3⟩,q1,q2,q3⟩,v,q4,q5⟩,hz,nbj,xj,a1,a2,hmem⟩ => ?_
   ·let J3 : St -> Prop := fun st => J2 st /\ getE st.env 10 = .str nm0 /\ (∃ v,getE st.env 11 = .lptr 11 v 0 /\ lget st.loc 11 = some (v,.cells [.int .i64 w0,.int .i64 d0])) /\ getE st.env 42 = blocksAV y /\ getE st.env 43 = .int .i64 y.blocks.length
    let I2 : Nat -> St -> Prop := fun j st => J3 st /\ getE st.env 44 = .int .i64 j /\ (∀ k (hk : k < y.blocks.length),k < j -> E y.blocks[k] = 0) /\ ∃ (nbj : Nat) (xj : List Blk),nbi <= nbj /\ nbj <= nbi + blksW (y.blocks.take j) /\ MM nbj ei xj st
    have hbl2 : y.blocks.length <= 2 := by unfold Stp.blocks; split <;> (try split) <;> simp
    refine Runs.seq' (M := fun st => J3 st /\ getE st.env 44 = .int .i64 0 /\ MM nbi ei ext st) (by
     simp only [blocksAV] at e108
     simp [J3,J2,J,K,MM,h1,h2,h3,q1,q2,q3,q4,q5,q6,q7,q8,hmem,kl,kt,e108,blocksAV]) fun s6 ⟨d1,d2,d3⟩ => ?_
    have hI : I2 0 s6 := ⟨d1,d2,fun k _ hk => absurd hk (by omega),nbi,ext,Nat.le_refl _,by simp [blksW],d3⟩
    refine Runs.block (Runs.upto (I := I2) y.blocks.length hI (fun j st hlt2 hst => ?_) (fun st hst => ?_))
    ·obtain ⟨⟨⟨⟨⟨h1,h2,h3⟩,q1,q2,q3⟩,v,q4,q5⟩,q6,⟨v2,q7,q8⟩,z1,z2⟩,z3,z4,nbj,xj,a1,a2,hmem⟩ := hst
     simp only [MM] at hmem
     have hwj : IntKind.wrap .i64 ((j : Int) + 1) = (j : Int) + 1 := wrap_i64 (by omega) (by omega)
     have hbt := blksW_take y.blocks j hlt2
     have hbl3 := blksW_take_le y.blocks (j + 1)
     have hpm := List.getElem_mem hlt2
     have hbf := blk_facts hoki hpm
     have e233 := f233 (u := u) (b := b) { blks := M nbj ei ++ xj,touched := [] } (mck nbj ei xj) (mid nbj ei xj) nm0 w0 d0 (by omega)
     have hsc := hNw nbj a1
     generalize hes : (if nm0 = [] then ei else putN ei nm0 w0 d0) = es2 at *
     have hmset : (M nbj ei ++ xj).set ck (.cells [.list cps (ps.map Prc.av),.int .i64 own,.int .i64 (nbj + 1 : Nat)]) ++ [.map (es2.map entAV)] = M (nbj + 1) ei ++ (xj ++ [.map (es2.map entAV)]) := by
      rw [msc,List.append_assoc]
     rw [hmset] at e233
     have hln : (M nbj ei ++ xj).length = (M (nbj + 1) ei ++ xj).length := by simp [mln]
     rw [hln] at e233
     have hlw4 : nbj + 1 + Stp.wts (y.blocks[j]).2 < 100000000000 := by omega
     have hrec : ∃ (nb' : Nat) (es' : List Nme),nbj + 1 <= nb' /\ nb' <= nbj + 1 + Stp.wts (y.blocks[j]).2 ∧
       cvl (C u) (.fn (.func 193) [] []) [.gptr ck 0,scAV (M (nbj + 1) ei ++ xj).length nbj,.list (y.blocks[j]).1 (Stp.avs (y.blocks[j]).2)] { blks := M (nbj + 1) ei ++ (xj ++ [.map (es2.map entAV)]),touched := [] } = some (.int .i64 (E y.blocks[j]),{ blks := M nb' ei ++ (xj ++ [.map (es'.map entAV)]),touched := [] }) := by
      have go : ∀ c l',okCap c -> Stp.Oks l' -> nbj + 1 + Stp.wts l' < 100000000000 -> (∀ (cb : Cap),okCap cb -> Stp.Oks l' -> ∀ (es : List Nme) (L : Look) (b nb ck id : Nat) (m : Mem),m.blks[ck]? = some (.cells [.list cps (ps.map Prc.av),.int .i64 own,.int .i64 nb]) -> m.blks[id]? = some (.map (es.map entAV)) -> LScope es b nb L -> b < nb -> nb + Stp.wts l' < 100000000000 →
        ∃ (nb' : Nat) (es' : List Nme),nb <= nb' /\ nb' <= nb + Stp.wts l' /\ cvl (C u) (.fn (.func 193) [] []) [.gptr ck 0,scAV id b,.list cb (Stp.avs l')] m = some (.int .i64 (blkE ps own l' L),{ blks := bM m.blks ck id (.list cps (ps.map Prc.av)) (.int .i64 own) nb' es',touched := m.touched })) →
        ∃ (nb' : Nat) (es' : List Nme),nbj + 1 <= nb' /\ nb' <= nbj + 1 + Stp.wts l' /\ cvl (C u) (.fn (.func 193) [] []) [.gptr ck 0,scAV (M (nbj + 1) ei ++ xj).length nbj,.list c (Stp.avs l')] { blks := M (nbj + 1) ei ++ (xj ++ [.map (es2.map entAV)]),touched := [] } = some (.int .i64 (blkE ps own l' (inside Li y.kind y.name)),{ blks := M nb' ei ++ (xj ++ [.map (es'.map entAV)]),touched := [] }) := by
       intro c l' hc hl' hwl hP
       obtain ⟨nb',es',p1,p2,p3⟩ := hP c hc hl' es2 _ nbj (nbj + 1) ck (M (nbj + 1) ei ++ xj).length { blks := M (nbj + 1) ei ++ (xj ++ [.map (es2.map entAV)]),touched := [] } (mck _ _ _) (by rw [<- List.append_assoc]; simp) hsc (by omega) (by omega)
       refine ⟨nb',es',p1,p2,?_⟩
       rw [p3]
       have : bM (M (nbj + 1) ei ++ (xj ++ [.map (es2.map entAV)])) ck (M (nbj + 1) ei ++ xj).length (.list cps (ps.map Prc.av)) (.int .i64 own) nb' es' = M nb' ei ++ (xj ++ [.map (es'.map entAV)]) := by
        have hX : (M nb' ei ++ xj).length = (M (nbj + 1) ei ++ xj).length := by simp [mln]
        rw [bM,msc,<- List.append_assoc,<- hX,List.set_append_right _ _ (Nat.le_refl _),List.append_assoc]
        simp
       simp only [this]
      rcases blocks_mem hpm with he | he <;> rw [he] at hbf hlw4 ⊢ <;> simp only [E]
      ·exact go _ _ hbf.1 hbf.2.1 hlw4 ihy.1
      ·exact go _ _ hbf.1 hbf.2.1 hlw4 ihy.2
     obtain ⟨nb2,es3,p1,p2,p3⟩ := hrec
     simp only [scAV] at e233 p3
     generalize (M (nbj + 1) ei ++ xj).length = ln at *
     simp only [blocksAV,blkAV] at z1
     refine Runs.seq' (M := fun st => J3 st /\ getE st.env 44 = .int .i64 j /\ MM nbj ei xj st /\ getE st.env 45 = .bool true) (by simp [J3,J2,J,K,MM,h1,h2,h3,q1,q2,q3,q4,q5,q6,q7,q8,z1,z2,z3,hmem,hlt2,blocksAV,blkAV]) fun s7 ⟨⟨⟨⟨⟨h1,h2,h3⟩,q1,q2,q3⟩,v,q4,q5⟩,q6,⟨v2,q7,q8⟩,z1,z2⟩,z3,hmem,z5⟩ => ?_
     simp only [MM] at hmem
     refine Runs.seq' (M := fun st => J3 st /\ getE st.env 44 = .int .i64 j /\ MM nbj ei xj st) (by simp [J3,J2,J,K,MM,h1,h2,h3,q1,q2,q3,q4,q5,q6,q7,q8,z1,z2,z3,z5,hmem]) fun s7 ⟨⟨⟨⟨⟨h1,h2,h3⟩,q1,q2,q3⟩,v,q4,q5⟩,q6,⟨v2,q7,q8⟩,z1,z2⟩,z3,hmem⟩ => ?_
     simp only [MM] at hmem
     simp only [blocksAV,blkAV] at z1
     by_cases hez : E y.blocks[j] = 0
     ·rw [hez] at p3
      refine Runs.seq' (M := fun st => J3 st /\ getE st.env 44 = .int .i64 j /\ MM nb2 ei (xj ++ [.map (es3.map entAV)]) st) (by
       simp [J3,J2,J,K,MM,h1,h2,h3,q1,q2,q3,q4,q5,q6,q7,q8,z1,z2,z3,hmem,hlt2,blocksAV,blkAV,e233,p3]) fun s7 ⟨⟨⟨⟨⟨h1,h2,h3⟩,q1,q2,q3⟩,v,q4,q5⟩,q6,⟨v2,q7,q8⟩,z1,z2⟩,z3,hmem⟩ => ?_
      simp only [MM] at hmem
      have z6 := before_succ (P := fun k => ∀ hk : k < y.blocks.length,E y.blocks[k] = 0) (n := y.blocks.length) (fun k a b c => z4 k c b) (fun _ => hez)
      exact Runs.fin (M := fun st => J3 st /\ getE st.env 44 = .int .i64 ((j : Int) + 1) /\ MM nb2 ei (xj ++ [.map (es3.map entAV)]) st) .normal (by simp [J3,J2,J,K,MM,h1,h2,h3,q1,q2,q3,q4,q5,q6,q7,q8,z1,z2,z3,hmem,hwj]) fun s' ⟨d1,d2,d3⟩ => .inl ⟨rfl,d1,d2,fun k hk hkj => z6 k hk hkj hk,nb2,_,by omega,by omega,d3⟩
     ·have hfe := first_at hlt2 z4 hez
      have hbl4 := hbl
      rw [if_pos (show first E y.blocks ≠ 0 by rw [hfe]; exact hez)] at hbl4
      have hbl5 : E y.blocks[j] = blkE ps own l L := hfe.symm.trans hbl4
      rw [hbl5] at hez p3
      refine Runs.seq (M := fun _ => False) ?_ fun _ h => h.elim
      refine Runs.fin (M := fun st => MM nb2 ei (xj ++ [.map (es3.map entAV)]) st /\ getE st.env 6 = .int .i64 (blkE ps own l L)) .ret (by simp [MM,h1,h2,h3,q1,q2,q3,q4,q5,q6,q7,q8,z1,z2,z3,hmem,hlt2,blkAV,e233,p3,bne_true hez,hez]) fun s' ⟨b1,b2⟩ => ?_
      have hf : Fin s' := ⟨nb2,ei,_,by omega,by omega,b1⟩
      simp [hf,b2]
    ·obtain ⟨⟨⟨⟨⟨h1,h2,h3⟩,q1,q2,q3⟩,v,q4,q5⟩,q6,⟨v2,q7,q8⟩,z1,z2⟩,z3,z4,nbj,xj,a1,a2,hmem⟩ := hst
     simp only [MM] at hmem
     rw [List.take_length] at a2
     have hz := first_all (f := E) fun k hk => z4 k hk hk
     refine Runs.fin (M := fun st => J2 st /\ MM nbj ei xj st) (.exit 3) (by simp [J2,J,K,MM,l193_0,h1,h2,h3,q1,q2,q3,q4,q5,z1,z2,z3,hmem]) fun s' ⟨d1,d2⟩ => ?_
     exact ⟨by simp,.inl ⟨rfl,.inl ⟨rfl,d1,hz,nbj,xj,a1,by omega,d2⟩⟩⟩
   ·simp only [MM] at hmem
    rw [if_neg (show ¬ first E y.blocks ≠ 0 by simpa using hz)] at hbl
    have hsj := hsi.mono (show (nbi : Int) <= (nbj : Int) by omega)
    have m1 := mid nbj ei xj
    have m2 := msi nbj ei xj
    by_cases hk2 : y.kind = 2
    ·refine Runs.fin (M := fun st => J st /\ MM nbj (putN ei y.name 1 b) xj st) .normal (by simp [J,K,MM,h1,h2,h3,q1,q2,q3,q4,q5,hmem,kl,k0,k2,hk2,fills,m1,m2,isKey,plain,plains,mset_ents,Mem.put]) fun s' ⟨d1,d2⟩ => ?_
     have hl : LScope (putN ei y.name 1 b) b nbj (after Li y.kind y.name) := by
      have := hsj.put y.name 1 b (by decide) (by omega)
      simpa [after,hk2,lookL] using this
     simp
     exact ⟨d1,nbj,by omega,by omega,_,hl,⟨xj,d2⟩,hbl⟩
    by_cases hk3 : y.kind = 3
    ·refine Runs.fin (M := fun st => J st /\ MM nbj (delN ei y.name) xj st) .normal (by simp [J,K,MM,h1,h2,h3,q1,q2,q3,q4,q5,hmem,kl,k0,k2,hk3,fills,m1,m2,isKey,mdel_ents,Mem.put]) fun s' ⟨d1,d2⟩ => ?_
     have hl : LScope (delN ei y.name) b nbj (after Li y.kind y.name) := by
      have := hsj.del y.name
      simpa [after,hk3] using this
     simp
     exact ⟨d1,nbj,by omega,by omega,_,hl,⟨xj,d2⟩,hbl⟩
    by_cases hk5 : y.kind = 5
    ·refine Runs.fin (M := fun st => J st /\ MM nbj (putN ei y.name 2 0) xj st) .normal (by simp [J,K,MM,h1,h2,h3,q1,q2,q3,q4,q5,hmem,kl,k0,k2,hk5,fills,m1,m2,isKey,plain,plains,mset_ents,Mem.put]) fun s' ⟨d1,d2⟩ => ?_
     have hl : LScope (putN ei y.name 2 0) b nbj (after Li y.kind y.name) := by
      have := hsj.put y.name 2 0 (by decide) (by omega)
      simpa [after,hk5,lookL] using this
     simp
     exact ⟨d1,nbj,by omega,by omega,_,hl,⟨xj,d2⟩,hbl⟩
    ·refine Runs.fin (M := fun st => J st /\ MM nbj (ei) xj st) .normal (by simp [J,K,MM,h1,h2,h3,q1,q2,q3,q4,q5,hmem,kl,k0,k2,ne_true hk2,ne_true hk3,ne_true hk5]) fun s' ⟨d1,d2⟩ => ?_
     have hl : LScope (ei) b nbj (after Li y.kind y.name) := by
      simpa [after,hk2,hk3,hk5] using hsj
     simp
     exact ⟨d1,nbj,by omega,by omega,_,hl,⟨xj,d2⟩,hbl⟩
  ·obtain ⟨⟨h1,h2,h3⟩,q1,q2,q3,nbi,ei,ext,Li,hn1,hn2,hsi,hmem,hbl⟩ := hst
   rw [List.take_length] at hn2
   rw [List.drop_length] at hbl
   have hz : blkE ps own l L = 0 := hbl.symm
   refine Runs.fin (M := fun st => st.mem = { blks := M nbi ei ++ ext,touched := [] }) (.exit 0) (by simp [l193_1,h1,h2,h3,q1,q2,q3,hmem]) fun s' d1 => ?_
   have hf : Fin s' := ⟨nbi,ei,ext,hn1,hn2,d1⟩
   simp [hf,hz]
 obtain ⟨r,r1,r2,⟨nb',es',ext,r3,r4,r5⟩,r6⟩ := hrun
 exact ⟨nb',es',r3,r4,mod_runs (g := g193) (by rfl) (by rfl) (by rfl) (mln nb' es') ⟨r,r1,r2,⟨ext,r5⟩,[_],by simp [g193]; exact r6,by simp⟩⟩
end Go.Abs.Tz
