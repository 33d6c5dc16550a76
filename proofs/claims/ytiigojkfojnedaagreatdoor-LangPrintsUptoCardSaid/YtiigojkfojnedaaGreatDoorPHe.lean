/- A text of this proof. -/
import Derived.Test.YtiigojkfojnedaaGreatDoorPHc
set_option linter.unusedVariables false
set_option linter.unusedSimpArgs false
set_option maxRecDepth 100000
set_option maxHeartbeats 4000000
namespace Go.Abs.Tz
open Go.Abs
variable {u : Nat}
attribute [local simp] exec aops astep wantedA aop evO setO setU getE getE_setE lget lget_lset aBin aInt aUn AV.cells newVar padd rd wr asElem single splice aStr adraw ascan Runs gets RV.get tupled frz_int frz_bool
def _root_.Go.Abs.Stp.cb : Stp -> Cap
 | .mk _ _ _ _ _ _ _ c _ _ _ => c
def _root_.Go.Abs.Stp.ce : Stp -> Cap
 | .mk _ _ _ _ _ _ _ _ _ c _ => c
def _root_.Go.Abs.Stp.blocks (x : Stp) : List (Cap × List Stp) := if hasElse x.kind then [(x.cb,x.body),(x.ce,x.els)] else if hasBody x.kind then [(x.cb,x.body)] else []
def blkAV (p : Cap × List Stp) : AV := .list p.1 (Stp.avs p.2)
def blocksAV (x : Stp) : AV := .list (if hasBody x.kind then .any else .nil) (x.blocks.map blkAV)
theorem Plc.frz_av (bs : List Blk) (n : Nat) (p : Plc) (h : p.Ok) : frz bs n 8 p.av = p.av := by
 have : (p.ix.map Idx.av).map (frz bs n 8) = p.ix.map Idx.av := by
  rw [List.map_map]; exact List.map_congr_left fun x hx => Idx.frz_av bs n 8 x (h.2.2 x hx).1
 simp only [Plc.av,frz_agg8,List.map_cons,List.map_nil,frz_list8,exp_cap h.2.1,this,frz_str]
theorem Idx.frz_four (bs : List Blk) (n : Nat) (x : Idx) (h : x.Ok) : x.four.map (frz bs n 8) = x.four := by
 have := Idx.frz_av bs n 8 x h
 rw [Idx.av_four,frz_agg8] at this
 simpa using this
theorem Stp.frz_cells (bs : List Blk) (n : Nat) (x : Stp) : x.Ok -> x.cells.map (frz bs n 8) = x.cells := by
 refine Stp.ind' (Q := fun x => x.Ok -> x.cells.map (frz bs n 8) = x.cells) (fun kk g nm cp pl size to cb body ce els h1 h2 h => ?_) x
 simp only [Stp.Ok] at h
 obtain ⟨-,k1,k2,k3,k4,k5,k6,k7,k8⟩ := h
 have e1 : (pl.map Plc.av).map (frz bs n 8) = pl.map Plc.av := by
  rw [List.map_map]; exact List.map_congr_left fun x hx => Plc.frz_av bs n x (k2 x hx)
 have go : ∀ l : List Stp,Stp.Oks l -> (∀ y ∈ l,y.Ok -> y.cells.map (frz bs n 8) = y.cells) -> (Stp.avs l).map (frz bs n 8) = Stp.avs l := by
  intro l hl hy
  rw [Stp.avs_eq,List.map_map]
  refine List.map_congr_left fun y hm => ?_
  simp only [Function.comp,Stp.av,frz_agg8,hy y hm (Stp.oks_mem hl y hm)]
 simp only [Stp.cells,List.map_append,List.map_cons,List.map_nil,frz_list8,exp_cap k1,exp_cap k5,exp_cap k7,e1,Idx.frz_four _ _ _ k3.1,Idx.frz_four _ _ _ k4.1,go body k6 h1,go els k8 h2,frz_int,frz_str]
theorem frz_stps (bs : List Blk) (n : Nat) {c : Cap} (hc : okCap c) {l : List Stp} (h : Stp.Oks l) : frz bs n 8 (.list c (Stp.avs l)) = .list c (Stp.avs l) := by
 have : (Stp.avs l).map (frz bs n 8) = Stp.avs l := by
  rw [Stp.avs_eq,List.map_map]
  exact List.map_congr_left fun y hy => by simp only [Function.comp,Stp.av,frz_agg8,Stp.frz_cells bs n y (Stp.oks_mem h y hy)]
 rw [frz_list8,exp_cap hc,this]
theorem Stp.caps_ok {x : Stp} (h : x.Ok) : okCap x.cb /\ okCap x.ce := by
 obtain ⟨k,g,nm,cp,pl,size,to,cb,body,ce,els⟩ := x
 simp only [Stp.Ok] at h
 exact ⟨h.2.2.2.2.2.1,h.2.2.2.2.2.2.2.1⟩
theorem f108 (x : Stp) (hx : x.Ok) (m : Mem) : cvl (C u) (.fn (.func 108) [] []) [x.av] m = some (blocksAV x,m) := by
 have hob := Stp.oks_body hx
 have hoc := Stp.caps_ok hx
 refine call_runs (g := g108) (by rfl) (by rfl) (by rfl) ?_
 simp only [List.map_cons,List.map_nil,Stp.exp_av _ _ _ hx,g108,c108]
 obtain ⟨k,g,nm,cp,pl,⟨k1,n1,s1,c1,l1⟩,⟨k2,n2,s2,c2,l2⟩,cb,body,ce,els⟩ := x
 simp only [Stp.body,Stp.els,Stp.cb,Stp.ce] at hob hoc
 have z1 : ∀ bs n,frz bs n 8 (.list .full [.list cb (Stp.avs body)]) = .list .any [.list cb (Stp.avs body)] := fun bs n => by
  rw [frz_list8]; simp only [List.map_cons,List.map_nil,frz_stps bs n hoc.1 hob.1]; rfl
 have z2 : ∀ bs n,frz bs n 8 (.list .full [.list cb (Stp.avs body),.list ce (Stp.avs els)]) = .list .any [.list cb (Stp.avs body),.list ce (Stp.avs els)] := fun bs n => by
  rw [frz_list8]; simp only [List.map_cons,List.map_nil,frz_stps bs n hoc.1 hob.1,frz_stps bs n hoc.2 hob.2]; rfl
 have z0 : ∀ bs n,frz bs n 8 (.list .nil []) = .list .nil [] := fun bs n => rfl
 have n1 : nols (Stp.avs body) = Stp.avs body := by
  rw [nols_eq,Stp.avs_eq,List.map_map]; exact List.map_congr_left fun y _ => by simp only [Function.comp,Stp.av,nol,Stp.nol_cells]
 have n2 : nols (Stp.avs els) = Stp.avs els := by
  rw [nols_eq,Stp.avs_eq,List.map_map]; exact List.map_congr_left fun y _ => by simp only [Function.comp,Stp.av,nol,Stp.nol_cells]
 by_cases e4 : k = 4
 ·subst e4; simp [Stp.av,Stp.cells,Idx.four,Stp.kind,Stp.body,Stp.els,Stp.cb,Stp.ce,Stp.blocks,blocksAV,blkAV,hasBody,hasElse,shaped,AV.one,Mem.nol,nol,n1,n2,z1,z2,z0]
 by_cases e8 : k = 8
 ·subst e8; simp [Stp.av,Stp.cells,Idx.four,Stp.kind,Stp.body,Stp.els,Stp.cb,Stp.ce,Stp.blocks,blocksAV,blkAV,hasBody,hasElse,shaped,AV.one,Mem.nol,nol,n1,n2,z1,z2,z0]
 by_cases e10 : k = 10
 ·subst e10; simp [Stp.av,Stp.cells,Idx.four,Stp.kind,Stp.body,Stp.els,Stp.cb,Stp.ce,Stp.blocks,blocksAV,blkAV,hasBody,hasElse,shaped,AV.one,Mem.nol,nol,n1,n2,z1,z2,z0]
 by_cases e7 : k = 7
 ·subst e7; simp [Stp.av,Stp.cells,Idx.four,Stp.kind,Stp.body,Stp.els,Stp.cb,Stp.ce,Stp.blocks,blocksAV,blkAV,hasBody,hasElse,shaped,AV.one,Mem.nol,nol,n1,n2,z1,z2,z0]
 by_cases e11 : k = 11
 ·subst e11; simp [Stp.av,Stp.cells,Idx.four,Stp.kind,Stp.body,Stp.els,Stp.cb,Stp.ce,Stp.blocks,blocksAV,blkAV,hasBody,hasElse,shaped,AV.one,Mem.nol,nol,n1,n2,z1,z2,z0]
 simp [Stp.av,Stp.cells,Idx.four,Stp.kind,Stp.body,Stp.els,Stp.cb,Stp.ce,Stp.blocks,blocksAV,blkAV,hasBody,hasElse,e4,e8,e10,e7,e11,ne_true,z0]
theorem blocks_mem {x : Stp} {p : Cap × List Stp} (h : p ∈ x.blocks) : (p = (x.cb,x.body)) \/ (p = (x.ce,x.els)) := by
 unfold Stp.blocks at h
 split at h
 ·simpa using h
 ·split at h
  ·exact .inl (by simpa using h)
  ·simp at h
def dpE (x d : Nat) : Nat := if x = 0 then 0 else x + d - 1
def blksD (l : List (Cap × List Stp)) : Nat := match l with
 | [] => 0
 | p :: l => max (Stp.deeps p.2) (blksD l)
theorem deep_blocks (x : Stp) : x.deep = 1 + blksD x.blocks := by
 obtain ⟨k,g,nm,cp,pl,size,to,cb,body,ce,els⟩ := x
 simp only [Stp.deep,Stp.blocks,Stp.kind,Stp.body,Stp.els,Stp.cb,Stp.ce]
 by_cases hb : hasBody k = true <;> by_cases he : hasElse k = true <;> simp [blksD,hb,he]
 exfalso
 simp only [hasBody,hasElse,decide_eq_true_eq] at hb he
 omega
theorem blksD_take (l : List (Cap × List Stp)) (i : Nat) (h : i < l.length) : blksD (l.take (i + 1)) = max (blksD (l.take i)) (Stp.deeps l[i].2) := by
 induction l generalizing i with
 | nil => simp at h
 | cons a l ih =>
  cases i with
  | zero => simp [blksD]
  | succ i => simp only [List.take_succ_cons,blksD,List.getElem_cons_succ,ih i (by simpa using h),Nat.max_assoc]
theorem blk_facts {x : Stp} (hx : x.Ok) {p : Cap × List Stp} (h : p ∈ x.blocks) : okCap p.1 /\ Stp.Oks p.2 /\ Stp.wts p.2 + 3 <= x.wt := by
 have h1 := Stp.caps_ok hx
 have h2 := Stp.oks_body hx
 have h3 := Stp.wt_ge x
 rcases blocks_mem h with rfl | rfl
 ·exact ⟨h1.1,h2.1,by simp only; omega⟩
 ·exact ⟨h1.2,h2.2,by simp only; omega⟩
theorem f192 (l : List Stp) : ∀ (c : Cap),okCap c -> Stp.Oks l -> ∀ d : Nat,0 < d -> Stp.wts l + d < 1000000000000 -> ∀ m,cvl (C u) (.fn (.func 192) [] []) [.list c (Stp.avs l),.int .i64 d] m = some (.int .i64 (dpE (Stp.deeps l) d : Nat),m) := by
 refine Stp.lists (P := fun l => ∀ (c : Cap),okCap c -> Stp.Oks l -> ∀ d : Nat,0 < d -> Stp.wts l + d < 1000000000000 -> ∀ m,cvl (C u) (.fn (.func 192) [] []) [.list c (Stp.avs l),.int .i64 d] m = some (.int .i64 (dpE (Stp.deeps l) d : Nat),m)) (fun l ih c hc hok d hd hw m => ?_) l
 refine call_runs (g := g192) (by rfl) (by rfl) (by rfl) ?_
 simp only [List.map_cons,List.map_nil,exp_stps hc hok]
 simp only [exp,g192,c192]
 have hll := Stp.wts_len l
 let K : St -> Prop := fun st => getE st.env 1 = .int .i64 d /\ st.mem = { blks := m.blks,touched := [] }
 refine Runs.seq' (M := fun st => K st /\ getE st.env 0 = .list c (Stp.avs l)) (by simp [K]) fun s1 ⟨⟨h1,h2⟩,h3⟩ => ?_
 refine Runs.seq' (M := fun st => K st /\ getE st.env 0 = .list c (Stp.avs l) /\ getE st.env 5 = .int .i64 0) (by simp [K,h1,h2,h3]) fun s1 ⟨⟨h1,h2⟩,h3,h4⟩ => ?_
 refine Runs.seq (M := fun st => K st /\ getE st.env 5 = .int .i64 (dpE (Stp.deeps l) d : Nat)) ?_ fun s2 ⟨⟨h1,h2⟩,h3⟩ => by simp [h2,h3]
 let I : Nat -> St -> Prop := fun i st => K st /\ getE st.env 10 = .list c (Stp.avs l) /\ getE st.env 11 = .int .i64 l.length /\ getE st.env 12 = .int .i64 i /\ getE st.env 5 = .int .i64 (dpE (Stp.deeps (l.take i)) d : Nat)
 refine Runs.seq' (M := I 0) (by simp [I,K,h1,h2,h3,h4,stps_len,Stp.deeps,dpE]) fun s4 hI => ?_
 refine Runs.block (Runs.upto (I := I) l.length hI (fun i st hlt hst => ?_) (fun st hst => ?_))
 ·obtain ⟨⟨h1,h2⟩,q1,q2,q3,q4⟩ := hst
  have hwi : IntKind.wrap .i64 ((i : Int) + 1) = (i : Int) + 1 := wrap_i64 (by omega) (by omega)
  have hwd : IntKind.wrap .i64 ((d : Int) + 1) = (d : Int) + 1 := wrap_i64 (by omega) (by omega)
  have hg := stp_get l i hlt
  have hm : l[i] ∈ l := List.getElem_mem hlt
  have hoki := Stp.oks_mem hok _ hm
  have hwm := Stp.wt_mem hm
  have e108 := f108 (u := u) l[i] hoki
  have t2 := deeps_stp l i hlt
  have hdb := deep_blocks l[i]
  have hcl := Stp.cells_len l[i]
  have htk : l[i].cells.take 14 = l[i].cells := List.take_of_length_le (by omega)
  have ihb : ∀ p ∈ l[i].blocks,∀ m,cvl (C u) (.fn (.func 192) [] []) [.list p.1 (Stp.avs p.2),.int .i64 ((d : Int) + 1)] m = some (.int .i64 (dpE (Stp.deeps p.2) (d + 1) : Nat),m) := by
   intro p hp m
   have hf := blk_facts hoki hp
   rcases blocks_mem hp with rfl | rfl
   ·dsimp only at hf; clear hwd hwi; simpa using (ih _ hm).1 _ hf.1 hf.2.1 (d + 1) (by omega) (by omega) m
   ·dsimp only at hf; clear hwd hwi; simpa using (ih _ hm).2 _ hf.1 hf.2.1 (d + 1) (by omega) (by omega) m
  generalize l[i] = y at *
  simp only [Stp.av] at hg e108
  have hbm : ∀ j (hj : j < y.blocks.length),Stp.deeps (y.blocks[j]).2 + 3 <= y.wt := fun j hj => by
   have h5 := (blk_facts hoki (List.getElem_mem hj)).2.2
   have h6 := (Stp.cnts_le_wts (y.blocks[j]).2).2
   omega
  have hbl : y.blocks.length <= 2 := by unfold Stp.blocks; split <;> (try split) <;> simp
  let J : St -> Prop := fun st => K st /\ getE st.env 10 = .list c (Stp.avs l) /\ getE st.env 11 = .int .i64 l.length /\ getE st.env 12 = .int .i64 i
  let d0 := dpE (Stp.deeps (l.take i)) d
  refine Runs.seq' (M := fun st => J st /\ getE st.env 5 = .int .i64 d0 /\ getE st.env 13 = .bool true) (by simp [J,d0,K,h1,h2,q1,q2,q3,q4,hlt]) fun s5 ⟨⟨⟨h1,h2⟩,q1,q2,q3⟩,q4,q5⟩ => ?_
  refine Runs.seq' (M := fun st => J st /\ getE st.env 5 = .int .i64 d0) (by simp [J,K,h1,h2,q1,q2,q3,q4,q5]) fun s5 ⟨⟨⟨h1,h2⟩,q1,q2,q3⟩,q4⟩ => ?_
  refine Runs.seq (M := fun st => J st /\ getE st.env 5 = .int .i64 (dpE (Stp.deeps (l.take (i + 1))) d : Nat)) ?_ fun s6 ⟨⟨⟨h1,h2⟩,q1,q2,q3⟩,q4⟩ => by simp [I,K,h1,h2,q1,q2,q3,q4,hwi]
  refine Runs.block ?_
  let J2 : St -> Prop := fun st => J st /\ ∃ v,getE st.env 7 = .lptr 7 v 0 /\ lget st.loc 7 = some (v,.cells y.cells)
  refine Runs.seq' (M := fun st => J2 st /\ getE st.env 5 = .int .i64 d0) (by simp [J2,J,K,h1,h2,q1,q2,q3,q4,hg,hcl,htk,hlt,stps_len]) fun s5 ⟨⟨⟨⟨h1,h2⟩,q1,q2,q3⟩,v,q5,q6⟩,q4⟩ => ?_
  refine Runs.seq' (M := fun st => J2 st /\ getE st.env 5 = .int .i64 (max d0 d : Nat)) (by
   simp [J2,J,K,h1,h2,q1,q2,q3,q4,q5,q6]
   split <;> omega) fun s5 ⟨⟨⟨⟨h1,h2⟩,q1,q2,q3⟩,v,q5,q6⟩,q4⟩ => ?_
  let L2 : Nat -> St -> Prop := fun j st => J st /\ getE st.env 20 = blocksAV y /\ getE st.env 21 = .int .i64 y.blocks.length /\ getE st.env 22 = .int .i64 j /\ getE st.env 5 = .int .i64 (max (max d0 d) (dpE (blksD (y.blocks.take j)) (d + 1)) : Nat)
  refine Runs.seq' (M := L2 0) (by
   simp only [blocksAV] at e108
   simp [L2,J,K,h1,h2,q1,q2,q3,q4,q5,q6,e108,hcl,htk,blocksAV,blksD,dpE]) fun s6 hL => ?_
  have hfin : max (max d0 d) (dpE (blksD y.blocks) (d + 1)) = dpE (Stp.deeps (l.take (i + 1))) d := by
   rw [t2,hdb]
   simp only [d0,dpE]
   (repeat' split) <;> omega
  refine Runs.block (Runs.upto (I := L2) y.blocks.length hL (fun j st hlt2 hst => ?_) (fun st hst => ?_))
  ·obtain ⟨⟨⟨h1,h2⟩,q1,q2,q3⟩,z1,z2,z3,z4⟩ := hst
   have hwj : IntKind.wrap .i64 ((j : Int) + 1) = (j : Int) + 1 := wrap_i64 (by omega) (by omega)
   have hb := ihb _ (List.getElem_mem hlt2)
   have hbt := blksD_take y.blocks j hlt2
   simp only [blocksAV,blkAV] at z1
   simp [L2,J,K,l192_0,h1,h2,q1,q2,q3,z1,z2,z3,z4,hlt2,hwj,hwd,hb,blocksAV,blkAV]
   have hmx : dpE (blksD (y.blocks.take (j + 1))) (d + 1) = max (dpE (blksD (y.blocks.take j)) (d + 1)) (dpE (Stp.deeps (y.blocks[j]).2) (d + 1)) := by
    rw [hbt]; simp only [dpE]; (repeat' split) <;> omega
   rw [hmx]; split <;> omega
  ·obtain ⟨⟨⟨h1,h2⟩,q1,q2,q3⟩,z1,z2,z3,z4⟩ := hst
   simp only [List.take_length,hfin] at z4
   simp [J,K,l192_0,h1,h2,q1,q2,q3,z1,z2,z3,z4]
 ·obtain ⟨⟨h1,h2⟩,q1,q2,q3,q4⟩ := hst
  simp only [List.take_length] at q4
  simp [K,l192_1,h1,h2,q1,q2,q3,q4]
end Go.Abs.Tz
set_option maxRecDepth 100000
set_option maxHeartbeats 4000000
namespace Go.Abs.Tz
open Go.Abs
variable {u : Nat}
attribute [local simp] exec aops astep wantedA aop evO setO setU getE getE_setE lget lget_lset aBin aInt aUn AV.cells newVar padd rd wr asElem single splice aStr adraw ascan Runs gets RV.get tupled frz_int frz_bool
def Goes (u : Nat) {σ : Type} (Bk : σ -> List Blk) (fv : AV) (x : AV) (f : σ -> σ) (r : Bool) : Prop := ∀ s ext T,cvl (C u) fv [x] { blks := Bk s ++ ext,touched := T } = some (.bool r,{ blks := Bk (f s) ++ ext,touched := T })
theorem f283 {σ : Type} {Bk : σ -> List Blk} {N : Nat} (hN : ∀ s,(Bk s).length = N) {fv : AV} {f : Stp -> σ -> σ} (hf : Fix N fv) (c : Cap) (hc : okCap c) (l : List Stp) (hl : Stp.Oks l) (hlen : l.length < 1000000000000)
  (h : ∀ x ∈ l,Goes u Bk fv x.av (f x) false) : ∀ s ext T,cvl (C u) (.fn (.func 283) [] []) [.list c (Stp.avs l),fv] { blks := Bk s ++ ext,touched := T } = some (.int .i64 (-1),{ blks := Bk (l.foldl (fun s x => f x s) s) ++ ext,touched := T }) := by
 intro s ext T
 have e0 : (Bk s ++ ext).length = N + ext.length := by simp [hN]
 refine mod_runs (g := g283) (by rfl) (by rfl) (by rfl) (by simp [hN]) ?_
 simp only [List.nil_append,List.append_nil,List.map_cons,List.map_nil,exp_stps hc hl,hf _ false (show N <= (Bk s ++ ext).length by omega),g283,c283]
 let K : σ -> St -> Prop := fun s st => getE st.env 1 = fv /\ getE st.env 0 = .list c (Stp.avs l) /\ st.mem = { blks := Bk s ++ ext,touched := [] }
 refine Runs.seq' (M := K s) (by simp [K]) fun s1 ⟨h1,h2,h3⟩ => ?_
 refine Runs.seq (M := K (l.foldl (fun s x => f x s) s)) ?_ fun s2 ⟨h1,h2,h3⟩ => ?_
 ·let I : Nat -> St -> Prop := fun i st => K ((l.take i).foldl (fun s x => f x s) s) st /\ getE st.env 7 = .int .i64 l.length /\ getE st.env 8 = .int .i64 i
  refine Runs.seq' (M := I 0) (by simp [I,K,h1,h2,h3,stps_len]) fun s4 hI => ?_
  refine Runs.block (Runs.loop (I := I) l.length hI fun i st hi hst => ?_)
  obtain ⟨⟨h1,h2,h3⟩,q1,q2⟩ := hst
  rcases Nat.lt_or_ge i l.length with hlt | hge
  ·left
   refine ⟨hlt,?_⟩
   have hw : IntKind.wrap .i64 ((i : Int) + 1) = (i : Int) + 1 := wrap_i64 (by omega) (by omega)
   have hg := stp_get l i hlt
   have hx := h _ (List.getElem_mem hlt) ((l.take i).foldl (fun s x => f x s) s) ext []
   have ht : (l.take (i + 1)).foldl (fun s x => f x s) s = f l[i] ((l.take i).foldl (fun s x => f x s) s) := by
    rw [List.take_succ_eq_append_getElem hlt,List.foldl_append]; rfl
   have hcl := Stp.cells_len l[i]
   have htk : l[i].cells.take 14 = l[i].cells := List.take_of_length_le (by omega)
   simp only [Stp.av] at hg hx
   simp [I,K,l283_0,h1,h2,h3,q1,q2,hlt,hg,hx,hw,stps_len,hcl,htk,ht]
  ·right
   have : i = l.length := by omega
   subst this
   simp only [List.take_length] at h3
   simp [K,l283_0,h1,h2,h3,q1,q2]
 ·simp [h1,h2,h3]
theorem f247 {σ : Type} {Bk : σ -> List Blk} {N : Nat} (hN : ∀ s,(Bk s).length = N) {fv : AV} {f : Stp -> σ -> σ} (hf : Fix N fv) (c : Cap) (hc : okCap c) (l : List Stp) (hl : Stp.Oks l) (hlen : l.length < 1000000000000)
  (h : ∀ x ∈ l,Goes u Bk fv x.av (f x) false) : ∀ s ext T,cvl (C u) (.fn (.func 247) [] []) [.list c (Stp.avs l),fv] { blks := Bk s ++ ext,touched := T } = some (.bool false,{ blks := Bk (l.foldl (fun s x => f x s) s) ++ ext,touched := T }) := by
 intro s ext T
 have e0 : (Bk s ++ ext).length = N + ext.length := by simp [hN]
 have hx := f283 (u := u) hN hf c hc l hl hlen h s ext []
 refine mod_runs (g := g247) (by rfl) (by rfl) (by rfl) (by simp [hN]) ?_
 simp only [List.nil_append,List.append_nil,List.map_cons,List.map_nil,exp_stps hc hl,hf _ false (show N <= (Bk s ++ ext).length by omega),g247,c247]
 simp [hx]
theorem f208 {σ : Type} {Bk : σ -> List Blk} {N : Nat} (hN : ∀ s,(Bk s).length = N) {F : Fn} {fa fc : List AV} {f : Stp -> σ -> σ} (hf : Fix N (.fn F fa fc)) (hn1 : fa.map nol = fa) (hn2 : fc.map nol = fc) (c : Cap) (hc : okCap c) (l : List Stp) (hl : Stp.Oks l) (hlen : l.length < 1000000000000)
  (h : ∀ x ∈ l,Goes u Bk (.fn F fa fc) x.av (f x) true) : ∀ s ext T,cvl (C u) (.fn (.func 208) [] []) [.list c (Stp.avs l),(.fn F fa fc)] { blks := Bk s ++ ext,touched := T } = some (.bool true,{ blks := Bk (l.foldl (fun s x => f x s) s) ++ ext,touched := T }) := by
 intro s ext T
 have e0 : (Bk s ++ ext).length = N + ext.length := by simp [hN]
 let Bk' : σ -> List Blk := fun s => Bk s ++ ext ++ [.cells [.fn F fa fc]]
 have hN' : ∀ s,(Bk' s).length = N + ext.length + 1 := fun s => by simp [Bk',hN]; omega
 have hf' : Fix (N + ext.length + 1) (.fn (.func 248) [] [.gptr (N + ext.length) 0]) := by
  intro k b hk
  simp [exp,exps,Fn.below]; omega
 have hclo : ∀ x ∈ l,Goes u Bk' (.fn (.func 248) [] [.gptr (N + ext.length) 0]) x.av (f x) false := by
  intro x hx s ext' T'
  have hd : (Bk' s ++ ext')[N + ext.length]? = some (.cells [.fn F fa fc]) := by
   have : N + ext.length = (Bk s ++ ext).length := by simp [hN]
   simp only [Bk',List.append_assoc,this]
   simp
  have hxx := h x hx s (ext ++ [.cells [.fn F fa fc]] ++ ext') []
  have hcl := Stp.cells_len x
  refine mod_runs (g := g248) (by rfl) (by rfl) (by rfl) (by simp [hN']) ?_
  have a0 : N + ext.length < (Bk' s ++ ext').length := by simp [hN']; omega
  simp only [List.nil_append,List.cons_append,List.map_cons,List.map_nil,Stp.exp_av _ _ _ (Stp.oks_mem hl x hx),exp,a0,if_true,g248,c248]
  have e1 : Bk s ++ (ext ++ [.cells [.fn F fa fc]] ++ ext') = Bk' s ++ ext' := by simp [Bk']
  have e2 : Bk (f x s) ++ (ext ++ [.cells [.fn F fa fc]] ++ ext') = Bk' (f x s) ++ ext' := by simp [Bk']
  rw [e1,e2] at hxx
  simp only [Stp.av] at hxx ⊢
  have htk : x.cells.take 14 = x.cells := List.take_of_length_le (by omega)
  simp [hcl,hd,hxx,htk]
 have hx := f247 (u := u) hN' hf' c hc l hl hlen hclo s [] []
 simp only [Bk',List.append_nil,List.append_assoc] at hx
 refine mod_runs (g := g208) (by rfl) (by rfl) (by rfl) (by simp [hN]) ?_
 simp only [List.nil_append,List.append_nil,List.map_cons,List.map_nil,exp_stps hc hl,hf _ false (show N <= (Bk s ++ ext).length by omega),g208,c208]
 simp [Mem.push,Mem.nol,nol,nols_eq,hn1,hn2,hN,hx]
theorem exp_blks {n : Nat} {k : Bool} {cc : Cap} (hc : okCap cc) {l : List (Cap × List Stp)} (h : ∀ p ∈ l,okCap p.1 /\ Stp.Oks p.2) : exp n k (.list cc (l.map blkAV)) = .list cc (l.map blkAV) := by
 have : exps n k (l.map blkAV) = l.map blkAV := by
  rw [exps_eq,List.map_map]
  exact List.map_congr_left fun p hp => exp_stps (h p hp).1 (h p hp).2
 simp only [exp,exp_cap hc,this]
theorem f282 {σ : Type} {Bk : σ -> List Blk} {N : Nat} (hN : ∀ s,(Bk s).length = N) {fv : AV} {f : Cap × List Stp -> σ -> σ} (hf : Fix N fv) (c : Cap) (hc : okCap c) (l : List (Cap × List Stp)) (hl : ∀ p ∈ l,okCap p.1 /\ Stp.Oks p.2) (hlen : l.length < 1000000000000)
  (h : ∀ x ∈ l,Goes u Bk fv (blkAV x) (f x) false) : ∀ s ext T,cvl (C u) (.fn (.func 282) [] []) [.list c (l.map blkAV),fv] { blks := Bk s ++ ext,touched := T } = some (.int .i64 (-1),{ blks := Bk (l.foldl (fun s x => f x s) s) ++ ext,touched := T }) := by
 intro s ext T
 have e0 : (Bk s ++ ext).length = N + ext.length := by simp [hN]
 refine mod_runs (g := g282) (by rfl) (by rfl) (by rfl) (by simp [hN]) ?_
 simp only [List.nil_append,List.append_nil,List.map_cons,List.map_nil,exp_blks hc hl,hf _ false (show N <= (Bk s ++ ext).length by omega),g282,c282]
 let K : σ -> St -> Prop := fun s st => getE st.env 1 = fv /\ getE st.env 0 = .list c (l.map blkAV) /\ st.mem = { blks := Bk s ++ ext,touched := [] }
 refine Runs.seq' (M := K s) (by simp [K]) fun s1 ⟨h1,h2,h3⟩ => ?_
 refine Runs.seq (M := K (l.foldl (fun s x => f x s) s)) ?_ fun s2 ⟨h1,h2,h3⟩ => by simp [h1,h2,h3]
 let I : Nat -> St -> Prop := fun i st => K ((l.take i).foldl (fun s x => f x s) s) st /\ getE st.env 7 = .int .i64 l.length /\ getE st.env 8 = .int .i64 i
 refine Runs.seq' (M := I 0) (by simp [I,K,h1,h2,h3]) fun s4 hI => ?_
 refine Runs.block (Runs.loop (I := I) l.length hI fun i st hi hst => ?_)
 obtain ⟨⟨h1,h2,h3⟩,q1,q2⟩ := hst
 rcases Nat.lt_or_ge i l.length with hlt | hge
 ·left
  refine ⟨hlt,?_⟩
  have hw : IntKind.wrap .i64 ((i : Int) + 1) = (i : Int) + 1 := wrap_i64 (by omega) (by omega)
  have hx := h _ (List.getElem_mem hlt) ((l.take i).foldl (fun s x => f x s) s) ext []
  have ht : (l.take (i + 1)).foldl (fun s x => f x s) s = f l[i] ((l.take i).foldl (fun s x => f x s) s) := by
   rw [List.take_succ_eq_append_getElem hlt,List.foldl_append]; rfl
  simp only [blkAV] at hx h2
  simp [I,K,l282_0,h1,h2,h3,q1,q2,hlt,hx,hw,ht,blkAV]
 ·right
  have : i = l.length := by omega
  subst this
  simp only [List.take_length] at h3
  simp [K,l282_0,h1,h2,h3,q1,q2]
theorem f245 {σ : Type} {Bk : σ -> List Blk} {N : Nat} (hN : ∀ s,(Bk s).length = N) {fv : AV} {f : Cap × List Stp -> σ -> σ} (hf : Fix N fv) (c : Cap) (hc : okCap c) (l : List (Cap × List Stp)) (hl : ∀ p ∈ l,okCap p.1 /\ Stp.Oks p.2) (hlen : l.length < 1000000000000)
  (h : ∀ x ∈ l,Goes u Bk fv (blkAV x) (f x) false) : ∀ s ext T,cvl (C u) (.fn (.func 245) [] []) [.list c (l.map blkAV),fv] { blks := Bk s ++ ext,touched := T } = some (.bool false,{ blks := Bk (l.foldl (fun s x => f x s) s) ++ ext,touched := T }) := by
 intro s ext T
 have e0 : (Bk s ++ ext).length = N + ext.length := by simp [hN]
 have hx := f282 (u := u) hN hf c hc l hl hlen h s ext []
 refine mod_runs (g := g245) (by rfl) (by rfl) (by rfl) (by simp [hN]) ?_
 simp only [List.nil_append,List.append_nil,List.map_cons,List.map_nil,exp_blks hc hl,hf _ false (show N <= (Bk s ++ ext).length by omega),g245,c245]
 simp [hx]
theorem f206 {σ : Type} {Bk : σ -> List Blk} {N : Nat} (hN : ∀ s,(Bk s).length = N) {F : Fn} {fa fc : List AV} {f : Cap × List Stp -> σ -> σ} (hf : Fix N (.fn F fa fc)) (hn1 : fa.map nol = fa) (hn2 : fc.map nol = fc) (c : Cap) (hc : okCap c) (l : List (Cap × List Stp)) (hl : ∀ p ∈ l,okCap p.1 /\ Stp.Oks p.2) (hlen : l.length < 1000000000000)
  (h : ∀ x ∈ l,Goes u Bk (.fn F fa fc) (blkAV x) (f x) true) : ∀ s ext T,cvl (C u) (.fn (.func 206) [] []) [.list c (l.map blkAV),(.fn F fa fc)] { blks := Bk s ++ ext,touched := T } = some (.bool true,{ blks := Bk (l.foldl (fun s x => f x s) s) ++ ext,touched := T }) := by
 intro s ext T
 have e0 : (Bk s ++ ext).length = N + ext.length := by simp [hN]
 let Bk' : σ -> List Blk := fun s => Bk s ++ ext ++ [.cells [.fn F fa fc]]
 have hN' : ∀ s,(Bk' s).length = N + ext.length + 1 := fun s => by simp [Bk',hN]; omega
 have hf' : Fix (N + ext.length + 1) (.fn (.func 246) [] [.gptr (N + ext.length) 0]) := by
  intro k b hk
  simp [exp,exps,Fn.below]; omega
 have hclo : ∀ x ∈ l,Goes u Bk' (.fn (.func 246) [] [.gptr (N + ext.length) 0]) (blkAV x) (f x) false := by
  intro x hx s ext' T'
  have hd : (Bk' s ++ ext')[N + ext.length]? = some (.cells [.fn F fa fc]) := by
   have : N + ext.length = (Bk s ++ ext).length := by simp [hN]
   simp only [Bk',List.append_assoc,this]
   simp
  have hxx := h x hx s (ext ++ [.cells [.fn F fa fc]] ++ ext') []
  refine mod_runs (g := g246) (by rfl) (by rfl) (by rfl) (by simp [hN']) ?_
  have a0 : N + ext.length < (Bk' s ++ ext').length := by simp [hN']; omega
  have hb : exp (Bk' s ++ ext').length false (blkAV x) = blkAV x := exp_stps (hl x hx).1 (hl x hx).2
  simp only [List.nil_append,List.cons_append,List.map_cons,List.map_nil,hb]
  simp only [exp,a0,if_true,g246,c246]
  have e1 : Bk s ++ (ext ++ [.cells [.fn F fa fc]] ++ ext') = Bk' s ++ ext' := by simp [Bk']
  have e2 : Bk (f x s) ++ (ext ++ [.cells [.fn F fa fc]] ++ ext') = Bk' (f x s) ++ ext' := by simp [Bk']
  rw [e1,e2] at hxx
  simp [hd,hxx]
 have hx := f245 (u := u) hN' hf' c hc l hl hlen hclo s [] []
 simp only [Bk',List.append_nil,List.append_assoc] at hx
 refine mod_runs (g := g206) (by rfl) (by rfl) (by rfl) (by simp [hN]) ?_
 simp only [List.nil_append,List.append_nil,List.map_cons,List.map_nil,exp_blks hc hl,hf _ false (show N <= (Bk s ++ ext).length by omega),g206,c206]
 simp [Mem.push,Mem.nol,nol,nols_eq,hn1,hn2,hN,hx]
mutual
def goS {σ : Type} (f : Stp -> σ -> σ) : Stp -> σ -> σ
 | .mk k g nm cp pl size to cb body ce els,s => if hasBody k then (if hasElse k then goL f els (goL f body (f (.mk k g nm cp pl size to cb body ce els) s)) else goL f body (f (.mk k g nm cp pl size to cb body ce els) s)) else f (.mk k g nm cp pl size to cb body ce els) s
def goL {σ : Type} (f : Stp -> σ -> σ) : List Stp -> σ -> σ
 | [],s => s
 | x :: l,s => goL f l (goS f x s)
end
theorem goL_fold {σ : Type} (f : Stp -> σ -> σ) (l : List Stp) (s : σ) : goL f l s = l.foldl (fun s x => goS f x s) s := by
 induction l generalizing s with
 | nil => rfl
 | cons a l ih => simp only [goL,List.foldl_cons,ih]
theorem goS_blocks {σ : Type} (f : Stp -> σ -> σ) (x : Stp) (s : σ) : goS f x s = x.blocks.foldl (fun s p => goL f p.2 s) (f x s) := by
 obtain ⟨k,g,nm,cp,pl,size,to,cb,body,ce,els⟩ := x
 simp only [goS,Stp.blocks,Stp.kind,Stp.body,Stp.els,Stp.cb,Stp.ce]
 by_cases hb : hasBody k = true <;> by_cases he : hasElse k = true <;> simp [hb,he]
 exfalso
 simp only [hasBody,hasElse,decide_eq_true_eq] at hb he
 omega
section
variable {σ : Type} {Bk : σ -> List Blk} {N : Nat} {F : Fn} {fa fc : List AV} {f : Stp -> σ -> σ}
def wkM (Bk : σ -> List Blk) (n : Nat) (e0 : List Blk) (yv : AV) : σ -> List Blk := fun s => Bk s ++ e0 ++ [.cells [yv],.cells [.fn (.func 205) [] [.gptr n 0,.gptr (n + 1) 0]]]
theorem f205 (hN : ∀ s,(Bk s).length = N) (e0 : List Blk) (hf : Fix N (.fn F fa fc)) (hy : ∀ x : Stp,x.Ok -> Goes u Bk (.fn F fa fc) x.av (f x) true) (x : Stp) : x.Ok -> x.wt < 1000000000000 →
  Goes u (wkM Bk (N + e0.length) e0 (.fn F fa fc)) (.fn (.func 205) [] [.gptr (N + e0.length) 0,.gptr (N + e0.length + 1) 0]) x.av (goS f x) true := by
 have hNw : ∀ s,(wkM Bk (N + e0.length) e0 (.fn F fa fc) s).length = N + e0.length + 2 := fun s => by simp [wkM,hN]; omega
 have hfw : Fix (N + e0.length + 2) (.fn (.func 205) [] [.gptr (N + e0.length) 0,.gptr (N + e0.length + 1) 0]) := by
  intro k b hk
  simp [exp,exps,Fn.below]; omega
 have hf7 : Fix (N + e0.length + 2) (.fn (.func 207) [] [.gptr (N + e0.length + 1) 0]) := by
  intro k b hk
  simp [exp,exps,Fn.below]; omega
 have d0 : ∀ s ext,(wkM Bk (N + e0.length) e0 (.fn F fa fc) s ++ ext)[N + e0.length]? = some (.cells [.fn F fa fc]) := fun s ext => by
  have : N + e0.length = (Bk s ++ e0).length := by simp [hN]
  simp only [wkM,List.append_assoc,this]; simp
 have d1 : ∀ s ext,(wkM Bk (N + e0.length) e0 (.fn F fa fc) s ++ ext)[N + e0.length + 1]? = some (.cells [.fn (.func 205) [] [.gptr (N + e0.length) 0,.gptr (N + e0.length + 1) 0]]) := fun s ext => by
  have h1 : N + e0.length = (Bk s ++ e0).length := by simp [hN]
  have h2 : ((Bk s ++ e0) ++ ([Blk.cells [.fn F fa fc],.cells [.fn (.func 205) [] [.gptr (N + e0.length) 0,.gptr (N + e0.length + 1) 0]]] ++ ext))[(Bk s ++ e0).length + 1]? = some (.cells [.fn (.func 205) [] [.gptr (N + e0.length) 0,.gptr (N + e0.length + 1) 0]]) := by
   rw [List.getElem?_append_right (by omega)]; simp
  simp only [wkM,List.append_assoc] at h2 ⊢
  rw [h1] at h2 ⊢
  simpa using h2
 refine Stp.ind' (Q := fun x => x.Ok -> x.wt < 1000000000000 -> Goes u (wkM Bk (N + e0.length) e0 (.fn F fa fc)) (.fn (.func 205) [] [.gptr (N + e0.length) 0,.gptr (N + e0.length + 1) 0]) x.av (goS f x) true) (fun k g nm cp pl size to cb body ce els h1 h2 hok hw => ?_) x
 have hyx := hy _ hok
 have hcl := Stp.cells_len (.mk k g nm cp pl size to cb body ce els)
 have h108 := f108 (u := u) _ hok
 have hgs := goS_blocks f (.mk k g nm cp pl size to cb body ce els)
 have hbf := fun p hp => blk_facts hok (p := p) hp
 have h7 : ∀ p ∈ (Stp.mk k g nm cp pl size to cb body ce els).blocks,Goes u (wkM Bk (N + e0.length) e0 (.fn F fa fc)) (.fn (.func 207) [] [.gptr (N + e0.length + 1) 0]) (blkAV p) (goL f p.2) true := by
  intro p hp s ext T
  have hbp := hbf p hp
  have hgo : ∀ y ∈ p.2,Goes u (wkM Bk (N + e0.length) e0 (.fn F fa fc)) (.fn (.func 205) [] [.gptr (N + e0.length) 0,.gptr (N + e0.length + 1) 0]) y.av (goS f y) true := by
   intro y hy'
   have hyw := Stp.wt_mem hy'
   rcases blocks_mem hp with rfl | rfl
   ·exact h1 y hy' (Stp.oks_mem hbp.2.1 y hy') (by omega)
   ·exact h2 y hy' (Stp.oks_mem hbp.2.1 y hy') (by omega)
  have hlw := Stp.wts_len p.2
  have hx := f208 (u := u) hNw hfw rfl rfl p.1 hbp.1 p.2 hbp.2.1 (by omega) hgo s ext []
  rw [<- goL_fold] at hx
  refine mod_runs (g := g207) (by rfl) (by rfl) (by rfl) (by simp [hNw]) ?_
  have a0 : N + e0.length + 1 < (wkM Bk (N + e0.length) e0 (.fn F fa fc) s ++ ext).length := by simp [hNw]; omega
  have hb : exp (wkM Bk (N + e0.length) e0 (.fn F fa fc) s ++ ext).length false (blkAV p) = blkAV p := exp_stps hbp.1 hbp.2.1
  simp only [List.nil_append,List.cons_append,List.map_cons,List.map_nil,hb]
  simp only [exp,a0,if_true,g207,c207]
  simp [d1,hx,blkAV]
 have hbl : (Stp.mk k g nm cp pl size to cb body ce els).blocks.length <= 2 := by unfold Stp.blocks; split <;> (try split) <;> simp
 generalize hxe : Stp.mk k g nm cp pl size to cb body ce els = x at *
 intro s ext T
 have h6 := f206 (u := u) hNw hf7 rfl rfl (if hasBody x.kind then .any else .nil) (by split <;> simp [okCap]) x.blocks (fun p hp => ⟨(hbf p hp).1,(hbf p hp).2.1⟩) (by omega) h7 (f x s) ext []
 rw [<- hgs] at h6
 have hy1 := hyx s (e0 ++ [.cells [.fn F fa fc],.cells [.fn (.func 205) [] [.gptr (N + e0.length) 0,.gptr (N + e0.length + 1) 0]]] ++ ext) []
 have e1 : ∀ s,Bk s ++ (e0 ++ [.cells [.fn F fa fc],.cells [.fn (.func 205) [] [.gptr (N + e0.length) 0,.gptr (N + e0.length + 1) 0]]] ++ ext) = wkM Bk (N + e0.length) e0 (.fn F fa fc) s ++ ext := fun s => by simp [wkM]
 rw [e1,e1] at hy1
 refine mod_runs (g := g205) (by rfl) (by rfl) (by rfl) (by simp [hNw]) ?_
 have a0 : N + e0.length < (wkM Bk (N + e0.length) e0 (.fn F fa fc) s ++ ext).length := by simp [hNw]; omega
 have a1 : N + e0.length + 1 < (wkM Bk (N + e0.length) e0 (.fn F fa fc) s ++ ext).length := by simp [hNw]; omega
 have htk : x.cells.take 14 = x.cells := List.take_of_length_le (by omega)
 simp only [List.nil_append,List.cons_append,List.map_cons,List.map_nil,Stp.exp_av _ _ _ hok]
 simp only [exp,a0,a1,if_true,g205,c205]
 simp only [Stp.av,blocksAV] at hy1 h108 ⊢
 simp [hcl,htk,d0,d1,hy1,h108,h6]
theorem frz_tup0 (bs : List Blk) (n : Nat) : frz bs n 8 (.tup []) = .tup [] := rfl
theorem f204 (hN : ∀ s,(Bk s).length = N) (hf : Fix N (.fn F fa fc)) (hn1 : fa.map nol = fa) (hn2 : fc.map nol = fc) (hy : ∀ x : Stp,x.Ok -> Goes u Bk (.fn F fa fc) x.av (f x) true) (c : Cap) (hc : okCap c) (l : List Stp) (hl : Stp.Oks l) (hw : Stp.wts l < 1000000000000) :
  ∀ s ext T,cvl (C u) (.fn (.func 204) [] [.ref [.list c (Stp.avs l)]]) [.fn F fa fc] { blks := Bk s ++ ext,touched := T } = some (.tup [],{ blks := Bk (goL f l s) ++ ext,touched := T }) := by
 intro s ext T
 have hlw := Stp.wts_len l
 have hNw : ∀ s,(wkM Bk (N + ext.length) ext (.fn F fa fc) s).length = N + ext.length + 2 := fun s => by simp [wkM,hN]; omega
 have hfw : Fix (N + ext.length + 2) (.fn (.func 205) [] [.gptr (N + ext.length) 0,.gptr (N + ext.length + 1) 0]) := by
  intro k b hk
  simp [exp,exps,Fn.below]; omega
 have hx := f208 (u := u) hNw hfw rfl rfl c hc l hl (by omega) (fun x hx => f205 (u := u) hN ext hf hy x (Stp.oks_mem hl x hx) (by have := Stp.wt_mem hx; omega)) s [] []
 rw [<- goL_fold] at hx
 refine mod_runs (g := g204) (by rfl) (by rfl) (by rfl) (by simp [hN]) ?_
 have hl0 : (Bk s ++ ext).length = N + ext.length := by simp [hN]
 have hr : exp (Bk s ++ ext).length false (.ref [.list c (Stp.avs l)]) = .ref [.list c (Stp.avs l)] := by
  have := exp_stps (n := (Bk s ++ ext).length) (k := false) hc hl
  simp only [exp,exps] at this ⊢
  rw [this]
 simp only [List.nil_append,List.cons_append,List.map_cons,List.map_nil,hr,hf _ false (show N <= (Bk s ++ ext).length by omega),g204,c204]
 simp only [wkM,List.append_nil,List.append_assoc,Nat.add_assoc] at hx
 simp [Mem.push,Mem.put,Mem.nol,nol,nols_eq,hn1,hn2,hN,los,lo,Fn.below,hx,frz_tup0]
end
theorem frz_fn (bs : List Blk) (n : Nat) (i : Nat) (hi : n <= i) (l : List AV) (h : bs[i]? = some (.cells l)) : frz bs n 8 (.fn (.func 204) [] [.gptr i 0]) = .fn (.func 204) [] [.ref (l.map (frz bs n 7))] := by
 have : ¬ i < n := by omega
 simp [frz,frzW,frzWs,Fn.below,this,h]
theorem frz_lv (bs : List Blk) (n k : Nat) (c : Cap) (l : List AV) : frz bs n (k + 1) (.list c l) = .list (c.exp n false) (l.map (frz bs n (k + 1))) := by
 simp only [frz,frzW,frzWs_eq]
theorem frz_ag (bs : List Blk) (n k : Nat) (l : List AV) : frz bs n (k + 1) (.agg l) = .agg (l.map (frz bs n (k + 1))) := by simp only [frz,frzW,frzWs_eq]
theorem Plc.frz_k (bs : List Blk) (n k : Nat) (p : Plc) (h : p.Ok) : frz bs n (k + 1) p.av = p.av := by
 have : (p.ix.map Idx.av).map (frz bs n (k + 1)) = p.ix.map Idx.av := by
  rw [List.map_map]; exact List.map_congr_left fun x hx => Idx.frz_av bs n (k + 1) x (h.2.2 x hx).1
 have hs : frz bs n (k + 1) (.str p.name) = .str p.name := rfl
 simp only [Plc.av,frz_ag,List.map_cons,List.map_nil,frz_lv,exp_cap h.2.1,this,hs]
theorem Stp.frz_k (bs : List Blk) (n j : Nat) (x : Stp) : x.Ok -> x.cells.map (frz bs n (j + 1)) = x.cells := by
 refine Stp.ind' (Q := fun x => x.Ok -> x.cells.map (frz bs n (j + 1)) = x.cells) (fun kk g nm cp pl size to cb body ce els h1 h2 h => ?_) x
 simp only [Stp.Ok] at h
 obtain ⟨-,k1,k2,k3,k4,k5,k6,k7,k8⟩ := h
 have e1 : (pl.map Plc.av).map (frz bs n (j + 1)) = pl.map Plc.av := by
  rw [List.map_map]; exact List.map_congr_left fun x hx => Plc.frz_k bs n j x (k2 x hx)
 have go : ∀ l : List Stp,Stp.Oks l -> (∀ y ∈ l,y.Ok -> y.cells.map (frz bs n (j + 1)) = y.cells) -> (Stp.avs l).map (frz bs n (j + 1)) = Stp.avs l := by
  intro l hl hy
  rw [Stp.avs_eq,List.map_map]
  refine List.map_congr_left fun y hm => ?_
  simp only [Function.comp,Stp.av,frz_ag,hy y hm (Stp.oks_mem hl y hm)]
 have q : ∀ y : Idx,y.Ok -> y.four.map (frz bs n (j + 1)) = y.four := fun y hy => by
  have := Idx.frz_av bs n (j + 1) y hy
  rw [Idx.av_four,frz_ag] at this
  simpa using this
 have hs : ∀ s,frz bs n (j + 1) (.str s) = .str s := fun s => rfl
 have hi : ∀ k i,frz bs n (j + 1) (.int k i) = .int k i := fun k i => rfl
 simp only [Stp.cells,List.map_append,List.map_cons,List.map_nil,frz_lv,exp_cap k1,exp_cap k5,exp_cap k7,e1,q _ k3.1,q _ k4.1,go body k6 h1,go els k8 h2,hs,hi]
theorem frz7_stps (bs : List Blk) (n : Nat) {c : Cap} (hc : okCap c) {l : List Stp} (h : Stp.Oks l) : frz bs n 7 (.list c (Stp.avs l)) = .list c (Stp.avs l) := by
 have : (Stp.avs l).map (frz bs n 7) = Stp.avs l := by
  rw [Stp.avs_eq,List.map_map]
  exact List.map_congr_left fun y hy => by simp only [Function.comp,Stp.av,frz_ag,Stp.frz_k bs n 6 y (Stp.oks_mem h y hy)]
 rw [frz_lv,exp_cap hc,this]
theorem f134 (c : Cap) (hc : okCap c) (l : List Stp) (hl : Stp.Oks l) (m : Mem) : cvl (C u) (.fn (.func 134) [] []) [.list c (Stp.avs l)] m = some (.fn (.func 204) [] [.ref [.list c (Stp.avs l)]],m) := by
 refine call_runs (g := g134) (by rfl) (by rfl) (by rfl) ?_
 simp only [List.map_cons,List.map_nil,exp_stps hc hl,g134,c134]
 have n1 : (Stp.avs l).map nol = Stp.avs l := by
  rw [Stp.avs_eq,List.map_map]; exact List.map_congr_left fun y _ => by simp only [Function.comp,Stp.av,nol,Stp.nol_cells]
 simp [Mem.push,Mem.nol,nol,nols_eq,n1]
 rw [frz_fn _ _ _ (Nat.le_refl _) [.list c (Stp.avs l)] (by simp)]
 simp [frz7_stps _ _ hc hl]
theorem wrap_succ (n : Nat) : IntKind.wrap .i64 (IntKind.wrap .i64 (n : Int) + 1) = IntKind.wrap .i64 ((n + 1 : Nat) : Int) := by
 have h : ∀ x : Int,IntKind.wrap .i64 x = if (true && decide (x % 18446744073709551616 ≥ 9223372036854775808)) = true then x % 18446744073709551616 - 18446744073709551616 else x % 18446744073709551616 := fun x => rfl
 simp only [h]
 simp
 (repeat' split) <;> omega
def cntM (B : List Blk) (env : List AV) (n : Nat) : List Blk := B ++ [.cells [.int .i64 (IntKind.wrap .i64 (n : Int))],.loop env [6] .skip (.block 1 (.ops [⟨(some 7),.ld false 1 (.t 3),none⟩,⟨(some 8),.bin .add (.t 7) (.c (.int .i64 1)),none⟩,⟨none,.st 1 (.t 3) (.t 8),none⟩])) .ready]
theorem getE_map (l : List AV) (i : Nat) : getE (l.map nol) i = nol (getE l i) := by
 induction l generalizing i with
 | nil => simp [getE,nol]
 | cons a l ih => cases i with
  | zero => rfl
  | succ i => simp only [List.map_cons,getE,ih]
theorem yield_cnt (B : List Blk) (env : List AV) (h3 : getE env 3 = .gptr B.length 0) (v : AV) (n : Nat) (ext : List Blk) (T : List Nat) :
  cvl (C u) (.fn (.yield (B.length + 1)) [] []) [v] { blks := cntM B env n ++ ext,touched := T } = some (.bool true,{ blks := cntM B env (n + 1) ++ ext,touched := T }) := by
 apply cvl_body
 simp only [body]
 unfold round
 simp [cntM,setPs,Mem.ls,Mem.setLS,h3,Mem.put,los,lo,wrap_succ,Mem.nol,nol]
theorem f135 (c : Cap) (hc : okCap c) (l : List Stp) (hl : Stp.Oks l) (hw : Stp.wts l < 1000000000000) (m : Mem) : cvl (C u) (.fn (.func 135) [] []) [.list c (Stp.avs l)] m = some (.int .i64 (Stp.cnts l),m) := by
 have e134 := f134 (u := u) c hc l hl
 refine call_runs (g := g135) (by rfl) (by rfl) (by rfl) ?_
 simp only [List.map_cons,List.map_nil,exp_stps hc hl,g135,c135]
 let K : St -> Prop := fun st => getE st.env 3 = .gptr m.blks.length 0 /\ st.mem = { blks := m.blks ++ [.cells [.int .i64 0]],touched := [] }
 refine Runs.seq' (M := fun st => getE st.env 0 = .list c (Stp.avs l) /\ st.mem = { blks := m.blks,touched := [] }) (by simp) fun s1 ⟨h1,h2⟩ => ?_
 refine Runs.seq' (M := fun st => K st /\ getE st.env 0 = .list c (Stp.avs l)) (by simp [K,h1,h2,Mem.push,Mem.put,Mem.nol,nol,los,lo]) fun s1 ⟨⟨h1,h2⟩,h3⟩ => ?_
 refine Runs.seq (M := fun st => getE st.env 3 = .gptr m.blks.length 0 /\ st.mem = { blks := m.blks ++ [.cells [.int .i64 (Stp.cnts l)]],touched := [] }) ?_ fun s2 ⟨h1,h2⟩ => by simp [h1,h2]
 refine Runs.seq' (M := fun st => K st /\ getE st.env 5 = .fn (.func 204) [] [.ref [.list c (Stp.avs l)]]) (by simp [K,h1,h2,h3,e134]) fun s1 ⟨⟨h1,h2⟩,h3⟩ => ?_
 refine Runs.block ?_
 have hnl : ∀ M : Mem,M.nol = nol := fun _ => rfl
 have h3' : getE (s1.env.map nol) 3 = .gptr m.blks.length 0 := by rw [getE_map,h1]; rfl
 have hgo := f204 (u := u) (Bk := cntM m.blks (s1.env.map nol)) (N := m.blks.length + 2) (F := .yield (m.blks.length + 1)) (fa := []) (fc := []) (f := fun _ n => n + 1) (fun n => by simp [cntM]) (fun k b hk => by simp [exp,exps,Fn.below]; omega) rfl rfl
  (fun x _ n ext T => yield_cnt m.blks _ h3' x.av n ext T) c hc l hl hw 0 [] []
 have hcount : ∀ (l : List Stp) (n : Nat),goL (fun _ n => n + 1) l n = n + Stp.cnts l := by
  intro l
  refine Stp.lists (P := fun l => ∀ n : Nat,goL (fun _ n => n + 1) l n = n + Stp.cnts l) (fun l ih n => ?_) l
  induction l generalizing n with
  | nil => rfl
  | cons a l ihl =>
   have ha := ih a (by simp)
   obtain ⟨k,g,nm,cp,pl,size,to,cb,body,ce,els⟩ := a
   simp only [Stp.body,Stp.els] at ha
   simp only [goL,goS,Stp.cnts,Stp.cnt,ihl (fun y hy => ih y (by simp [hy])),ha.1,ha.2]
   by_cases hb : hasBody k = true
   ·by_cases he : hasElse k = true <;> simp [hb,he] <;> omega
   ·have he : ¬ hasElse k = true := by simp only [hasBody,hasElse,decide_eq_true_eq] at hb ⊢; omega
    simp [hb,he]; omega
 rw [hcount,Nat.zero_add] at hgo
 have hcw := (Stp.cnts_le_wts l).1
 have hwr : IntKind.wrap .i64 (Stp.cnts l : Int) = (Stp.cnts l : Int) := wrap_i64 (by omega) (by omega)
 have hw0 : IntKind.wrap .i64 0 = 0 := by decide
 simp only [cntM,List.append_nil,hwr] at hgo
 have hw0' : IntKind.wrap .i64 ((0 : Nat) : Int) = 0 := by decide
 rw [hw0'] at hgo
 simp only [Runs,exec,evO,h3,AV.isFunc,Option.bind_some,h2,List.length_append,List.length_cons,List.length_nil,Nat.zero_add,List.append_assoc,List.cons_append,List.nil_append]
 simp [hnl,hgo,h1,Mem.back,scrubs]
 rw [List.take_append]
 simp [List.take_of_length_le]
end Go.Abs.Tz
