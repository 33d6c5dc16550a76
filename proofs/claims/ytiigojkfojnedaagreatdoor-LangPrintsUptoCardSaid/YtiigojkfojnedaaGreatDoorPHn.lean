/- A text of this proof. -/
import Derived.Test.YtiigojkfojnedaaGreatDoorPHm
set_option linter.unusedVariables false
set_option linter.unusedSimpArgs false
set_option maxRecDepth 100000
set_option maxHeartbeats 8000000
namespace Go.Abs.Tz
open Go.Abs
variable {u : Nat}
attribute [local simp] exec aops astep wantedA aop evO setO setU getE getE_setE lget lget_lset aBin aInt aUn AV.cells newVar padd rd wr asElem single splice aStr adraw ascan Runs gets RV.get tupled frz_int frz_bool
theorem cap_lo {c : Cap} (h : okCap c) (n : Nat) : c.lo n = true := by rcases h with rfl | rfl <;> rfl
theorem Idx.lo_av (n : Nat) (x : Idx) : x.Ok -> lo n x.av = true := by
 refine Idx.ind' (Q := fun x => x.Ok -> lo n x.av = true) (fun k nn s c l ih h => ?_) x
 simp only [Idx.Ok] at h
 have : los n (Idx.avs l) = true := by
  rw [los_eq,Idx.avs_eq,List.all_map,List.all_eq_true]
  exact fun y hy => ih y hy (Idx.oks_mem h.2 y hy)
 simp [Idx.av,lo,los,cap_lo h.1,this]
theorem Plc.lo_av (n : Nat) (p : Plc) (h : p.Ok) : lo n p.av = true := by
 have : los n (p.ix.map Idx.av) = true := by
  rw [los_eq,List.all_map,List.all_eq_true]
  exact fun y hy => Idx.lo_av n y (h.2.2 y hy).1
 simp [Plc.av,lo,los,cap_lo h.2.1,this]
theorem los_append (n : Nat) (a b : List AV) : los n (a ++ b) = (los n a && los n b) := by simp [los_eq]
theorem Stp.lo_cells (n : Nat) (x : Stp) : x.Ok -> los n x.cells = true := by
 refine Stp.ind' (Q := fun x => x.Ok -> los n x.cells = true) (fun kk g nm cp pl size to cb body ce els h1 h2 h => ?_) x
 simp only [Stp.Ok] at h
 obtain ⟨-,k1,k2,k3,k4,k5,k6,k7,k8⟩ := h
 have e1 : los n (pl.map Plc.av) = true := by
  rw [los_eq,List.all_map,List.all_eq_true]
  exact fun p hp => Plc.lo_av n p (k2 p hp)
 have e2 : ∀ y : Idx,y.Ok -> los n y.four = true := fun y hy => by
  have := Idx.lo_av n y hy
  rwa [Idx.av_four,lo] at this
 have go : ∀ l : List Stp,Stp.Oks l -> (∀ y ∈ l,y.Ok -> los n y.cells = true) -> los n (Stp.avs l) = true := by
  intro l hl hy
  rw [los_eq,Stp.avs_eq,List.all_map,List.all_eq_true]
  exact fun y hm => by simp only [Function.comp,Stp.av,lo]; exact hy y hm (Stp.oks_mem hl y hm)
 simp [Stp.cells,los_append,los,lo,cap_lo k1,cap_lo k5,cap_lo k7,e1,e2 _ k3.1,e2 _ k4.1,go body k6 h1,go els k8 h2]
theorem Stp.lo_avs (n : Nat) (l : List Stp) (h : Stp.Oks l) : los n (Stp.avs l) = true := by
 rw [los_eq,Stp.avs_eq,List.all_map,List.all_eq_true]
 exact fun y hm => by simp only [Function.comp,Stp.av,lo]; exact Stp.lo_cells n y (Stp.oks_mem h y hm)
theorem pars_lo (n : Nat) (l : List Par) : los n (l.map Par.av) = true := by
 rw [los_eq,List.all_map,List.all_eq_true]
 exact fun y hm => rfl
theorem ascan_last (gl : Nat -> AV) (cv : CallV) (l : List AOp) : ∀ s : St,(ascan gl cv l s).bind List.getLast? = aops gl cv l s := by
 induction l with
 | nil => intro s; rfl
 | cons o l ih =>
  intro s
  simp only [ascan,aops]
  cases h : astep gl cv o s with
  | none => rfl
  | some s' =>
   have := ih s'
   simp only
   cases hs : ascan gl cv l s' with
   | none => rw [hs] at this; simpa using this
   | some tr =>
    rw [hs] at this
    simp only [Option.bind_some,Option.map_some] at this ⊢
    rw [<- this]
    cases tr with
    | nil =>
     exfalso
     cases l with
     | nil => simp [ascan] at hs
     | cons o' l' =>
      simp only [ascan] at hs
      split at hs
      ·rw [Option.map_eq_some_iff] at hs
       obtain ⟨_,_,hs⟩ := hs
       cases hs
      ·cases hs
    | cons a tr => rw [List.getLast?_cons_cons]
theorem adraw_nil (gl : Nat -> AV) (cv : CallV) (l : List AOp) (s : St) : adraw gl cv l [] [] s = aops gl cv l s := by
 rw [<- ascan_last]
 simp only [adraw]
 cases ascan gl cv l s <;> rfl
theorem cps_cap {c : Cap} (h : okCap c) (b : Prop) [Decidable b] : (if c = .nil then Cap.nil else if c = .full /\ b then .full else .any) = c := by rcases h with rfl | rfl <;> simp
theorem parsE_cons (x : Par) (l : List Par) (L : Look) : parsE (x :: l) L = if namedB x.name = false then 4 else if x.size < 1 \/ 12 < x.size then 3 else if L x.name ≠ .none then 5 else parsE l (L.put x.name (.reg false)) := rfl
theorem f126 (cps : Cap) (hcps : okCap cps) (ps : List Prc) (hps : ∀ x ∈ ps,x.Ok) (hpw : prcsW ps < 10000000000) (k : Nat) (hk : k < ps.length) (ck : Nat) (m : Mem) (hck : m.blks[ck]? = some (.cells [.list cps (ps.map Prc.av),.int .i64 k,.int .i64 0])) :
  ∃ nb : Nat,cvl (C u) (.fn (.func 126) [] []) [.gptr ck 0] m = some (.int .i64 (procE ps k ps[k]),{ blks := m.blks.set ck (.cells [.list cps (ps.map Prc.av),.int .i64 k,.int .i64 nb]),touched := m.touched }) := by
 have hlc := get_lt hck
 have hlen := prcsW_len ps
 have hm : ps[k] ∈ ps := List.getElem_mem hk
 have hok := hps _ hm
 have hwm := Prc.wt_mem hm
 simp only [Prc.wt] at hwm
 have hnl : ∀ M : Mem,M.nol = nol := fun _ => rfl
 have hnp : nols (ps[k].pars.map Par.av) = ps[k].pars.map Par.av := by rw [nols_eq,List.map_map]; exact List.map_congr_left fun _ _ => rfl
 have hnb : nols (Stp.avs ps[k].body) = Stp.avs ps[k].body := by
  rw [nols_eq,Stp.avs_eq,List.map_map]; exact List.map_congr_left fun y _ => by simp only [Function.comp,Stp.av,nol,Stp.nol_cells]
 have hall : (ps.map Prc.av).all (fun e => decide (e.cells.length = 3)) = true := by simp [Prc.av]
 have hokt : ∀ p ∈ ps.take k,p.Ok := fun p hp => hps p (List.mem_of_mem_take hp)
 generalize hxk : ps[k] = x at *
 let xc : List AV := [.str x.name,.list x.cp (x.pars.map Par.av),.list x.cb (Stp.avs x.body)]
 let B1 : List Blk := m.blks ++ [.cells xc]
 let ckc : Nat -> Blk := fun n => .cells [.list cps (ps.map Prc.av),.int .i64 k,.int .i64 n]
 have d0 : ∀ ext,(B1 ++ ext)[ck]? = some (ckc 0) := fun ext => by
  simp only [B1,List.append_assoc]; rw [List.getElem?_append_left hlc]; exact hck
 have d1 : ∀ ext,(B1 ++ ext)[m.blks.length]? = some (.cells xc) := fun ext => by simp [B1]
 have hB1 : B1.length = m.blks.length + 1 := by simp [B1]
 let Fin : St -> Prop := fun st => ∃ (nb : Nat) (ext : List Blk),st.mem = { blks := m.blks.set ck (ckc nb) ++ ext,touched := [] }
 have fin0 : ∀ {st : St} {ext : List Blk},st.mem = { blks := B1 ++ ext,touched := [] } -> Fin st := fun {st ext} h => ⟨0,[.cells xc] ++ ext,by rw [h,set_same (x := ckc 0) hck]; simp [B1]⟩
 have hrun : Runs (C u).gl (cvl (C u)) g126.code { env := ([] ++ [AV.gptr ck 0] ++ []).map (exp m.blks.length false),loc := [],mem := { blks := m.blks,touched := [] } } fun r =>
   (∀ i,r.1 ≠ .exit i) /\ Fin r.2 /\ getE r.2.env 2 = .int .i64 (procE ps k x) := by
  have henv : ([] ++ [AV.gptr ck 0] ++ []).map (exp m.blks.length false) = [AV.gptr ck 0] := by simp [exp,hlc]
  rw [henv]
  simp only [g126,c126]
  let K : St -> Prop := fun st => getE st.env 0 = .gptr ck 0 /\ getE st.env 3 = .gptr m.blks.length 0
  let MM : List Blk -> St -> Prop := fun ext st => st.mem = { blks := B1 ++ ext,touched := [] }
  refine Runs.seq' (M := fun st => getE st.env 0 = .gptr ck 0 /\ st.mem = { blks := m.blks,touched := [] }) (by simp) fun s1 ⟨h1,h2⟩ => ?_
  have hck2 : (m.blks ++ [Blk.cells [AV.str [],AV.list Cap.nil [],AV.list Cap.nil []]])[ck]? = some (.cells [.list cps (ps.map Prc.av),.int .i64 k,.int .i64 0]) := by rw [List.getElem?_append_left hlc]; exact hck
  refine Runs.seq' (M := fun st => K st /\ MM [] st) (by
   simp [K,MM,B1,xc,h1,h2,hck,hck2,hk,hxk,Prc.av,chkLoad,chkNew,isSt,eqRd,AV.beqs,AV.beq,AV.beqs_refl,Mem.push,Mem.put,hnl,nol,nols,hnp,hnb,los,lo,cap_lo hok.2.1,cap_lo hok.2.2.2.1,pars_lo,Stp.lo_avs _ _ hok.2.2.2.2.1]) fun s1 ⟨⟨h1,h2⟩,h3⟩ => ?_
  simp only [MM,List.append_nil] at h3
  have d00 := d0 []
  have d10 := d1 []
  simp only [List.append_nil,ckc,xc] at d00 d10
  have e113 := fun m => f113 (u := u) x.name hok.1 m
  have hfix : Fix B1.length (.fn (.func 190) [] [.gptr m.blks.length 0]) := by
   intro kk bb hkk
   have : m.blks.length < kk := by omega
   simp [exp,exps,Fn.below,this]
  let S1 : St -> Prop := fun st => K st /\ MM [] st
  have hp4c : ¬ 4 < x.pars.length -> ¬ (4 : Int) < (x.pars.length : Int) := fun h => by omega
  have e189 := fun c hc => f189 (u := u) (q := fun p => p.name == x.name) hfix c hc (ps.take k) hokt (by rw [List.length_take]; omega) (fun p hp => f190 x.name [.list x.cp (x.pars.map Par.av),.list x.cb (Stp.avs x.body)] (by simpa [xc] using d1 []) p (hokt p hp)) [] []
  simp only [List.append_nil,List.map_take] at e189
  unfold procE
  cases hn : namedB x.name with
  | false =>
   rw [hn] at e113
   refine Runs.seq (M := fun _ => False) ?_ fun _ h => h.elim
   refine Runs.fin (M := fun st => MM [] st /\ getE st.env 2 = .int .i64 4) .ret (by simp [MM,h1,h2,h3,d10,e113]) fun s' ⟨b1,b2⟩ => ?_
   have hf : Fin s' := fin0 b1
   simp [hf,b2]
  | true =>
  rw [hn] at e113
  simp only [Bool.true_eq_false,if_false]
  have hkl : (k : Int) <= (ps.length : Int) := by omega
  have hkt : ((k : Int)).toNat = k := by omega
  by_cases htw : ((ps.take k).any fun p => p.name == x.name) = true
  ·rw [if_pos htw]
   refine Runs.seq (M := fun _ => False) ?_ fun _ h => h.elim
   refine Runs.fin (M := fun st => MM [] st /\ getE st.env 2 = .int .i64 5) .ret (by
    rw [htw] at e189
    simp [-adraw,-ascan,adraw_nil,MM,h1,h2,h3,d00,d10,e113,bound,hkl,hkt,Prc.av,e189 _ hcps,cps_cap hcps]) fun s' ⟨b1,b2⟩ => ?_
   have hf : Fin s' := fin0 b1
   simp [hf,b2]
  rw [if_neg htw]
  have htw' : ((ps.take k).any fun p => p.name == x.name) = false := by simpa using htw
  rw [htw'] at e189
  by_cases hp4 : 4 < x.pars.length
  ·rw [if_pos hp4]
   have hp4' : (4 : Int) < (x.pars.length : Int) := by omega
   refine Runs.seq (M := fun _ => False) ?_ fun _ h => h.elim
   refine Runs.fin (M := fun st => MM [] st /\ getE st.env 2 = .int .i64 2) .ret (by
    simp [-adraw,-ascan,adraw_nil,MM,h1,h2,h3,d00,d10,e113,bound,hkl,hkt,Prc.av,e189 _ hcps,cps_cap hcps,hp4']) fun s' ⟨b1,b2⟩ => ?_
   have hf : Fin s' := fin0 b1
   simp [hf,b2]
  rw [if_neg hp4]
  have hp4' : ¬ (4 : Int) < (x.pars.length : Int) := by omega
  refine Runs.seq' (M := S1) (by
   simp [S1,K,-adraw,-ascan,adraw_nil,MM,h1,h2,h3,d00,d10,e113,bound,hkl,hkt,Prc.av,e189 _ hcps,cps_cap hcps,hp4']) fun s1 ⟨⟨h1,h2⟩,h3⟩ => ?_
  simp only [MM,List.append_nil] at h3
  let id : Nat := m.blks.length + 1
  let S2 : List Nme -> St -> Prop := fun es st => K st /\ (∃ v,getE st.env 4 = .lptr 4 v 0 /\ lget st.loc 4 = some (v,.cells [.map id,.int .i64 0])) /\ MM [.map (es.map entAV)] st
  refine Runs.seq' (M := S2 []) (by
   simp [S2,K,MM,h1,h2,h3,fills,Mem.push,hB1,id]) fun s1 ⟨⟨h1,h2⟩,⟨v,h4,h5⟩,h3⟩ => ?_
  simp only [MM] at h3
  have hid : ∀ (es : List Nme) ext,(B1 ++ (Blk.map (es.map entAV) :: ext))[id]? = some (.map (es.map entAV)) := fun es ext => by
   show (B1 ++ (Blk.map (es.map entAV) :: ext))[m.blks.length + 1]? = _
   rw [<- hB1]; simp
  have hset : ∀ (es es' : List Nme),(B1 ++ [Blk.map (es.map entAV)]).set id (.map (es'.map entAV)) = B1 ++ [.map (es'.map entAV)] := fun es es' => by
   show (B1 ++ [Blk.map (es.map entAV)]).set (m.blks.length + 1) _ = _
   rw [<- hB1]; simp
  refine Runs.seq (M := fun st => parsE x.pars noL = 0 /\ ∃ es,LScope es 0 1 (parsL x.pars noL) /\ S2 es st) ?_ fun s1 ⟨hz,es,hs,⟨h1,h2⟩,⟨v,h4,h5⟩,h3⟩ => ?_
  ·let I : Nat -> St -> Prop := fun i st => getE st.env 45 = .list x.cp (x.pars.map Par.av) /\ getE st.env 46 = .int .i64 x.pars.length /\ getE st.env 47 = .int .i64 i /\ ∃ es L',LScope es 0 1 L' /\ S2 es st /\ parsE (x.pars.drop i) L' = parsE x.pars noL /\ parsL (x.pars.drop i) L' = parsL x.pars noL
   have d1e := d1 [.map []]
   simp only [xc] at d1e
   refine Runs.seq' (M := fun st => getE st.env 45 = .list x.cp (x.pars.map Par.av) /\ getE st.env 46 = .int .i64 x.pars.length /\ getE st.env 47 = .int .i64 0 /\ S2 [] st) (by
    simp [S2,K,MM,h1,h2,h3,h4,h5,d1e]) fun s4 ⟨a1,a2,a3,a4⟩ => ?_
   refine Runs.block (Runs.loop (I := I) x.pars.length ⟨a1,a2,a3,[],noL,LScope.empty 0 1,a4,rfl,rfl⟩ fun i st hi hst => ?_)
   obtain ⟨q1,q2,q3,es,L',hs',⟨⟨h1,h2⟩,⟨v,h4,h5⟩,h3⟩,q4,q5⟩ := hst
   simp only [MM] at h3
   rcases Nat.lt_or_ge i x.pars.length with hlt2 | hge
   ·have hwi : IntKind.wrap .i64 ((i : Int) + 1) = (i : Int) + 1 := wrap_i64 (by omega) (by omega)
    rw [List.drop_eq_getElem_cons hlt2] at q4 q5
    rw [parsE_cons] at q4
    simp only [parsL] at q5
    have hpstr : okStr x.pars[i].name := hok.2.2.1 _ (List.getElem_mem hlt2)
    have f191 := f191 (u := u) (B := B1 ++ [.map (es.map entAV)]) (by simpa using hid es []) hs' x.pars[i].name hpstr [] []
    simp only [scAV,List.append_nil] at f191
    have hidl : id < (B1 ++ [Blk.map (es.map entAV)]).length := by simp [hB1,id]
    by_cases hnp : namedB x.pars[i].name = false
    ·rw [if_pos hnp] at q4
     have hne : newE L' x.pars[i].name = 4 := by simp [newE,hnp]
     rw [hne] at f191
     right
     have hx : ∃ s',exec (C u).gl (cvl (C u)) lpl l126_0 st = some (.ret,s') /\ MM [.map (es.map entAV)] s' /\ getE s'.env 2 = .int .i64 4 := by
      simp [MM,l126_0,h1,h2,h3,h4,h5,q1,q2,q3,hlt2,Par.av,f191]
     obtain ⟨s',b0,b1,b2⟩ := hx
     refine ⟨_,b0,by simp,?_⟩
     have hf : Fin s' := fin0 b1
     simp [hf,b2,<- q4]
    rw [if_neg hnp] at q4
    have hnp' : namedB x.pars[i].name = true := by simpa using hnp
    have hne4 : newE L' x.pars[i].name ≠ 4 := by
     simp only [newE,hnp',Bool.true_eq_false,if_false]; split <;> decide
    by_cases hsz : x.pars[i].size < 1 \/ 12 < x.pars[i].size
    ·rw [if_pos hsz] at q4
     right
     have hx : ∃ s',exec (C u).gl (cvl (C u)) lpl l126_0 st = some (.ret,s') /\ MM [.map (es.map entAV)] s' /\ getE s'.env 2 = .int .i64 3 := by
      rcases hsz with hsz | hsz
      ·simp [MM,l126_0,h1,h2,h3,h4,h5,q1,q2,q3,hlt2,Par.av,f191,ne_true hne4,hsz]
      ·have : ¬ x.pars[i].size < 1 := by omega
       simp [MM,l126_0,h1,h2,h3,h4,h5,q1,q2,q3,hlt2,Par.av,f191,ne_true hne4,hsz,this]
     obtain ⟨s',b0,b1,b2⟩ := hx
     refine ⟨_,b0,by simp,?_⟩
     have hf : Fin s' := fin0 b1
     simp [hf,b2,<- q4]
    rw [if_neg hsz] at q4
    have hs1 : ¬ x.pars[i].size < 1 := by omega
    have hs2 : ¬ 12 < x.pars[i].size := by omega
    by_cases hln : L' x.pars[i].name = .none
    ·rw [if_neg (by simpa using hln)] at q4
     have hne : newE L' x.pars[i].name = 0 := by simp [newE,hnp',hln]
     rw [hne] at f191
     left
     refine ⟨hlt2,?_⟩
     have hx : ∃ s',exec (C u).gl (cvl (C u)) lpl l126_0 st = some (.normal,s') /\ S2 (putN es x.pars[i].name 1 (-1)) s' /\ getE s'.env 45 = .list x.cp (x.pars.map Par.av) /\ getE s'.env 46 = .int .i64 x.pars.length /\ getE s'.env 47 = .int .i64 ((i : Int) + 1) := by
      simp [S2,K,MM,l126_0,h1,h2,h3,h4,h5,q1,q2,q3,hlt2,Par.av,f191,hs1,hs2,hwi,fills,hid,hset,isKey,plain,plains,mset_ents,Mem.put]
     obtain ⟨s',b0,b1,b2,b3,b4⟩ := hx
     have := hs'.put x.pars[i].name 1 (-1) (by decide) (by omega)
     exact ⟨s',b0,b2,b3,b4,_,_,by simpa [lookL] using this,b1,q4,q5⟩
    ·rw [if_pos hln] at q4
     have hne : newE L' x.pars[i].name = 5 := by simp [newE,hnp',hln]
     rw [hne] at f191
     right
     have hx : ∃ s',exec (C u).gl (cvl (C u)) lpl l126_0 st = some (.ret,s') /\ MM [.map (es.map entAV)] s' /\ getE s'.env 2 = .int .i64 5 := by
      simp [MM,l126_0,h1,h2,h3,h4,h5,q1,q2,q3,hlt2,Par.av,f191,hs1,hs2]
     obtain ⟨s',b0,b1,b2⟩ := hx
     refine ⟨_,b0,by simp,?_⟩
     have hf : Fin s' := fin0 b1
     simp [hf,b2,<- q4]
   ·right
    have : i = x.pars.length := by omega
    subst this
    rw [List.drop_length] at q4 q5
    simp only [parsE] at q4
    simp only [parsL] at q5
    have hx : ∃ s',exec (C u).gl (cvl (C u)) lpl l126_0 st = some (.exit 1,s') /\ S2 es s' := by
     simp [S2,K,MM,l126_0,h1,h2,h3,h4,h5,q1,q2,q3]
    obtain ⟨s',b0,b1⟩ := hx
    refine ⟨_,b0,by simp,.inl ⟨rfl,.inl ⟨rfl,q4.symm,es,?_,b1⟩⟩⟩
    rw [<- q5]; exact hs'
  simp only [MM] at h3
  rw [hz]
  simp only [ne_eq,not_true_eq_false,if_false]
  have d1e := d1 [.map (es.map entAV)]
  have d0e := d0 [.map (es.map entAV)]
  simp only [xc] at d1e
  simp only [ckc] at d0e
  have hcw := Stp.cnts_le_wts x.body
  have e135 := fun m => f135 (u := u) x.cb hok.2.2.2.1 x.body hok.2.2.2.2.1 (by omega) m
  have e192 := fun m => f192 (u := u) x.body x.cb hok.2.2.2.1 hok.2.2.2.2.1 1 (by omega) (by omega) m
  have hdp : dpE (Stp.deeps x.body) 1 = Stp.deeps x.body := by unfold dpE; split <;> omega
  rw [hdp] at e192
  have e192' : ∀ m,cvl (C u) (.fn (.func 192) [] []) [.list x.cb (Stp.avs x.body),.int .i64 1] m = some (.int .i64 (Stp.deeps x.body),m) := e192
  by_cases hc : 120 < Stp.cnts x.body
  ·rw [if_pos hc]
   have hc' : (120 : Int) < (Stp.cnts x.body : Int) := by omega
   refine Runs.seq (M := fun _ => False) ?_ fun _ h => h.elim
   refine Runs.fin (M := fun st => MM [.map (es.map entAV)] st /\ getE st.env 2 = .int .i64 2) .ret (by simp [MM,h1,h2,h3,h4,h5,d1e,e135,hc']) fun s' ⟨b1,b2⟩ => ?_
   have hf : Fin s' := fin0 b1
   simp [hf,b2]
  rw [if_neg hc]
  have hcc : ¬ (120 : Int) < (Stp.cnts x.body : Int) := by omega
  by_cases hd : 6 < Stp.deeps x.body
  ·rw [if_pos hd]
   have hd' : (6 : Int) < (Stp.deeps x.body : Int) := by omega
   refine Runs.seq (M := fun _ => False) ?_ fun _ h => h.elim
   refine Runs.fin (M := fun st => MM [.map (es.map entAV)] st /\ getE st.env 2 = .int .i64 11) .ret (by simp [MM,h1,h2,h3,h4,h5,d1e,e135,hcc,e192',hd']) fun s' ⟨b1,b2⟩ => ?_
   have hf : Fin s' := fin0 b1
   simp [hf,b2]
  rw [if_neg hd]
  have hdd : ¬ (6 : Int) < (Stp.deeps x.body : Int) := by omega
  refine Runs.seq' (M := S2 es) (by simp [S2,K,MM,h1,h2,h3,h4,h5,d1e,e135,hcc,e192',hdd]) fun s1 ⟨⟨h1,h2⟩,⟨v,h4,h5⟩,h3⟩ => ?_
  simp only [MM] at h3
  let B2 : List Blk := m.blks.set ck (ckc 1)
  have hB2 : (B1 ++ [Blk.map (es.map entAV)]).set ck (.cells [.list cps (ps.map Prc.av),.int .i64 k,.int .i64 1]) = B2 ++ [.cells xc,.map (es.map entAV)] := by
   simp only [B1,List.append_assoc]
   rw [List.set_append_left _ _ hlc]
   rfl
  have hB2l : B2.length = m.blks.length := by simp [B2]
  have hck3 : (B2 ++ [Blk.cells xc,.map (es.map entAV)])[ck]? = some (.cells [.list cps (ps.map Prc.av),.int .i64 k,.int .i64 (1 : Nat)]) := by
   rw [List.getElem?_append_left (by omega)]
   simp [B2,ckc,hlc]
  have hid3 : (B2 ++ [Blk.cells xc,.map (es.map entAV)])[id]? = some (.map (es.map entAV)) := by
   show (B2 ++ [Blk.cells xc,.map (es.map entAV)])[m.blks.length + 1]? = _
   rw [<- hB2l]; simp
  obtain ⟨nb',es',p1,p2,p3⟩ := f193 (u := u) cps hcps ps hps (by omega) k x.body x.cb hok.2.2.2.1 hok.2.2.2.2.1 es _ 0 1 ck id { blks := B2 ++ [.cells xc,.map (es.map entAV)],touched := [] } hck3 hid3 hs (by omega) (by omega)
  have hbm : bM (B2 ++ [Blk.cells xc,.map (es.map entAV)]) ck id (.list cps (ps.map Prc.av)) (.int .i64 k) nb' es' = m.blks.set ck (ckc nb') ++ [.cells xc,.map (es'.map entAV)] := by
   unfold bM
   rw [List.set_append_left _ _ (by omega)]
   have : B2.set ck (.cells [.list cps (ps.map Prc.av),.int .i64 k,.int .i64 nb']) = m.blks.set ck (ckc nb') := by simp [B2,ckc]
   rw [this,List.set_append_right _ _ (by simp [id])]
   simp [id]
  simp only [hbm,scAV] at p3
  have p3' : cvl (C u) (.fn (.func 193) [] []) [.gptr ck 0,.agg [.map id,.int .i64 0],.list x.cb (Stp.avs x.body)] { blks := B2 ++ [.cells xc,.map (es.map entAV)],touched := [] } = some (.int .i64 (blkE ps k x.body (parsL x.pars noL)),{ blks := m.blks.set ck (ckc nb') ++ [.cells xc,.map (es'.map entAV)],touched := [] }) := p3
  refine Runs.seq' (M := fun st => K st /\ (∃ v,getE st.env 4 = .lptr 4 v 0 /\ lget st.loc 4 = some (v,.cells [.map id,.int .i64 0])) /\ st.mem = { blks := B2 ++ [.cells xc,.map (es.map entAV)],touched := [] }) (by
   simp [K,h1,h2,h3,h4,h5,d0e,hB2,Mem.put,hnl,nol,los,lo]) fun s1 ⟨⟨h1,h2⟩,⟨v,h4,h5⟩,h3⟩ => ?_
  have d3e : (B2 ++ [Blk.cells xc,.map (es.map entAV)])[m.blks.length]? = some (.cells [.str x.name,.list x.cp (x.pars.map Par.av),.list x.cb (Stp.avs x.body)]) := by
   rw [<- hB2l]; simp [xc]
  refine Runs.fin (M := fun st => st.mem = { blks := m.blks.set ck (ckc nb') ++ [.cells xc,.map (es'.map entAV)],touched := [] } /\ getE st.env 2 = .int .i64 (blkE ps k x.body (parsL x.pars noL))) .ret (by
   simp [h1,h2,h3,h4,h5,d3e,p3']) fun s' ⟨b1,b2⟩ => ?_
  have hf : Fin s' := ⟨nb',_,b1⟩
  simp [hf,b2]
 obtain ⟨r,r1,r2,⟨nb,ext,r3⟩,r4⟩ := hrun
 exact ⟨nb,mod_runs (g := g126) (by rfl) (by rfl) (by rfl) (by simp) ⟨r,r1,r2,⟨ext,r3⟩,[_],by simp [g126]; exact r4,by simp⟩⟩
theorem f43 (cps : Cap) (hcps : okCap cps) (ps : List Prc) (hps : ∀ x ∈ ps,x.Ok) (hpw : prcsW ps < 10000000000) (m : Mem) :
  cvl (C u) (.fn (.func 43) [] []) [prgAV cps ps] m = some (.int .i64 (checkE ps),m) := by
 refine call_runs (g := g43) (by rfl) (by rfl) (by rfl) ?_
 simp only [List.map_cons,List.map_nil,exp_prg hcps hps]
 simp only [g43,c43]
 have hlen := prcsW_len ps
 have hnl : ∀ M : Mem,M.nol = nol := fun _ => rfl
 have hnp : nols (ps.map Prc.av) = ps.map Prc.av := by
  rw [nols_eq,List.map_map]
  refine List.map_congr_left fun p _ => ?_
  have h1 : nols (p.pars.map Par.av) = p.pars.map Par.av := by rw [nols_eq,List.map_map]; exact List.map_congr_left fun _ _ => rfl
  have h2 : nols (Stp.avs p.body) = Stp.avs p.body := by
   rw [nols_eq,Stp.avs_eq,List.map_map]; exact List.map_congr_left fun y _ => by simp only [Function.comp,Stp.av,nol,Stp.nol_cells]
  simp only [Function.comp,Prc.av,nol,nols,h1,h2]
 simp only [prgAV] at *
 let K : List Blk -> St -> Prop := fun ext st => getE st.env 1 = .lptr 1 0 0 /\ lget st.loc 1 = some (0,.cells [.list cps (ps.map Prc.av)]) /\ st.mem = { blks := m.blks ++ ext,touched := [] }
 refine Runs.seq' (M := K []) (by simp [K,newVer]) fun s1 ⟨h1,h2,h3⟩ => ?_
 unfold checkE
 by_cases ho : ps.length < 1 \/ 12 < ps.length
 ·rw [if_pos ho]
  refine Runs.seq (M := fun _ => False) ?_ fun _ h => h.elim
  by_cases h0 : ps.length < 1
  ·have : (ps.length : Int) < 1 := by omega
   simp [h1,h2,h3,this]
  ·have h01 : ¬ (ps.length : Int) < 1 := by omega
   have h02 : (12 : Int) < ps.length := by omega
   simp [h1,h2,h3,h01,h02]
 rw [if_neg ho]
 have h01 : ¬ (ps.length : Int) < 1 := by omega
 have h02 : ¬ (12 : Int) < ps.length := by omega
 refine Runs.seq' (M := K []) (by simp [K,h1,h2,h3,h01,h02]) fun s1 ⟨h1,h2,h3⟩ => ?_
 refine Runs.seq (M := fun st => (∃ ext,K ext st) /\ progsE ps 0 ps = 0) ?_ fun s2 ⟨⟨ext,h1,h2,h3⟩,h4⟩ => by simp [h3,h4]
 let I : Nat -> St -> Prop := fun i st => (∃ ext,K ext st) /\ getE st.env 17 = .int .i64 ps.length /\ getE st.env 18 = .int .i64 i /\ progsE ps i (ps.drop i) = progsE ps 0 ps
 refine Runs.seq' (M := fun st => K [] st /\ getE st.env 17 = .int .i64 ps.length /\ getE st.env 18 = .int .i64 0) (by simp [K,h1,h2,h3]) fun s4 ⟨a1,a2,a3⟩ => ?_
 refine Runs.block (Runs.loop (I := I) ps.length ⟨⟨[],a1⟩,a2,a3,rfl⟩ fun i st hi hst => ?_)
 obtain ⟨⟨ext,h1,h2,h3⟩,q1,q2,q3⟩ := hst
 rcases Nat.lt_or_ge i ps.length with hlt | hge
 ·have hwi : IntKind.wrap .i64 ((i : Int) + 1) = (i : Int) + 1 := wrap_i64 (by omega) (by omega)
  have hnew : (m.blks ++ (ext ++ [Blk.cells [.list cps (ps.map Prc.av),.int .i64 i,.int .i64 0]]))[(m.blks ++ ext).length]? = some (.cells [.list cps (ps.map Prc.av),.int .i64 i,.int .i64 0]) := by rw [<- List.append_assoc]; simp
  obtain ⟨nb,e⟩ := f126 (u := u) cps hcps ps hps hpw i hlt (m.blks ++ ext).length { blks := m.blks ++ (ext ++ [.cells [.list cps (ps.map Prc.av),.int .i64 i,.int .i64 0]]),touched := [] } hnew
  have hset : (m.blks ++ (ext ++ [Blk.cells [.list cps (ps.map Prc.av),.int .i64 i,.int .i64 0]])).set (m.blks ++ ext).length (.cells [.list cps (ps.map Prc.av),.int .i64 i,.int .i64 nb]) = m.blks ++ (ext ++ [.cells [.list cps (ps.map Prc.av),.int .i64 i,.int .i64 nb]]) := by
   rw [<- List.append_assoc,List.set_append_right _ _ (Nat.le_refl _)]; simp
  simp only [hset,List.length_append] at e
  rw [List.drop_eq_getElem_cons hlt] at q3
  simp only [progsE] at q3
  by_cases hz : procE ps i ps[i] = 0
  ·rw [if_neg (by simpa using hz)] at q3
   rw [hz] at e
   left
   refine ⟨hlt,?_⟩
   have hx : ∃ s',exec (C u).gl (cvl (C u)) lpl l43_0 st = some (.normal,s') /\ K (ext ++ [.cells [.list cps (ps.map Prc.av),.int .i64 i,.int .i64 nb]]) s' /\ getE s'.env 17 = .int .i64 ps.length /\ getE s'.env 18 = .int .i64 ((i : Int) + 1) := by
    simp [K,l43_0,h1,h2,h3,q1,q2,hlt,e,hwi,fills,Mem.push,hnl,nol,nols,hnp]
   obtain ⟨s',b1,b2,b3,b4⟩ := hx
   exact ⟨s',b1,⟨_,b2⟩,b3,b4,q3⟩
  ·rw [if_pos hz] at q3
   rw [q3] at e hz
   right
   simp [l43_0,h1,h2,h3,q1,q2,hlt,e,bne_true hz,fills,Mem.push,hnl,nol,nols,hnp]
 ·right
  have : i = ps.length := by omega
  subst this
  rw [List.drop_length] at q3
  simp only [progsE] at q3
  have hx : ∃ s',exec (C u).gl (cvl (C u)) lpl l43_0 st = some (.exit 0,s') /\ K ext s' := by simp [K,l43_0,h1,h2,h3,q1,q2]
  obtain ⟨s',b1,b2⟩ := hx
  refine ⟨_,b1,by simp,?_⟩
  left
  exact ⟨rfl,.inl ⟨rfl,⟨ext,b2⟩,q3.symm⟩⟩
end Go.Abs.Tz
