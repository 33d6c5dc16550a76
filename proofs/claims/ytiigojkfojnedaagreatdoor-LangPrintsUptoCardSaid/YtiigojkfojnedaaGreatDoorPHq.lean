/- A text of this proof. -/
import Derived.Test.YtiigojkfojnedaaGreatDoorPHn
import Derived.Test.YtiigojkfojnedaaGreatDoorPVh
set_option linter.unusedVariables false
set_option linter.unusedSimpArgs false
set_option maxRecDepth 100000
set_option maxHeartbeats 4000000
namespace Go.Abs.Tz
open Go.Abs
variable {u : Nat}
attribute [local simp] exec aops astep wantedA aop evO setO setU getE getE_setE lget lget_lset aBin aInt aUn AV.cells newVar padd rd wr asElem single splice aStr adraw ascan Runs gets RV.get tupled frz_int frz_bool
def capL {α : Type} (l : List α) : Cap := match l with
 | [] => .nil
 | _ => .any
theorem capL_ok {α : Type} (l : List α) : okCap (capL l) := by
 cases l
 ·exact .inl rfl
 ·exact .inr rfl
def _root_.Go.Abs.Plc.copy (p : Plc) : Plc := ⟨p.name,capL p.ix,copies p.ix⟩
mutual
def _root_.Go.Abs.Stp.copy : Stp -> Stp
 | .mk k g nm _ pl size to _ body _ els => .mk k g nm (capL pl) (pl.map Plc.copy) size.copy to.copy (capL body) (scopies body) (capL els) (scopies els)
def scopies : List Stp -> List Stp
 | [] => []
 | s :: l => s.copy :: scopies l
end
def _root_.Go.Abs.Prc.copy (p : Prc) : Prc := ⟨p.name,p.cp,p.pars,capL p.body,scopies p.body⟩
def pcopies (l : List Prc) : List Prc := l.map Prc.copy
theorem scopies_eq (l : List Stp) : scopies l = l.map Stp.copy := by
 induction l with
 | nil => rfl
 | cons a l ih => simp [scopies,ih]
theorem scopies_len (l : List Stp) : (scopies l).length = l.length := by rw [scopies_eq]; simp
theorem Lv.ix (n : Nat) (x : Idx) (h : x.Ok) : Lv n x.av x.av := ⟨fun bs => Idx.frz_av bs n 8 x h,Idx.nol_av x⟩
theorem Plc.copy_av (p : Plc) : p.copy.av = .agg [.str p.name,.list (capL p.ix) (Idx.avs (copies p.ix))] := by simp [Plc.copy,Plc.av,Idx.avs_eq]
theorem f97 (c : Cap) (l : List Par) (hc : (c = .nil /\ l = []) \/ c = .any) (hlen : l.length < 100000000000) (m : Mem) : cvl (C u) (.fn (.func 97) [] []) [.list c (l.map Par.av)] m = some (.list c (l.map Par.av),m) := by
 refine call_runs (g := g97) (by rfl) (by rfl) (by rfl) ?_
 rcases hc with ⟨rfl,rfl⟩ | rfl
 ·simp [g97,c97,exp,exps,Cap.exp,isNil,frz,frzW,frzWs]
 ·have hv : Lvs true m.blks.length 2 (l.map Par.av) (l.map Par.av) := Lvs.of _ _ fun x _ => ⟨⟨fun _ => rfl,rfl⟩,rfl⟩
  obtain ⟨c1,e1,a1,r1⟩ := row_full (B := m.blks) (ext := []) (bytes := 24) (e := 76) (c := .any) hv.s hv.n (by decide) (by simp; omega) (by simp; omega)
  have hz := (hv.list c1).z
  have hcx : c1.exp m.blks.length false = .any := by
   rcases r1 with ⟨rfl | rfl,h0⟩ | ⟨t,rfl,h1,_⟩
   ·have := a1 []
    have hl0 : l.map Par.av = [] := List.eq_nil_of_length_eq_zero h0
    rw [hl0] at this
    simp [aApp] at this
   ·rfl
   ·simp [Cap.exp]
  rw [hcx] at hz
  have e1' : exps m.blks.length false (l.map Par.av) = l.map Par.av := by rw [exps_eq,List.map_map]; exact List.map_congr_left fun _ _ => rfl
  simp only [List.append_nil] at a1
  simp only [List.map_cons,List.map_nil,exp,e1',Cap.exp,g97,c97]
  simp [isNil,a1,hz]
structure RowN (n : Nat) (bs : List Blk) (sz : Nat) (e : TypeId) (c : Cap) (len : Nat) : Prop where
 r : Row n bs sz e c len
 n : len = 0 -> c = .nil
theorem RowN.exp {α : Type} {n : Nat} {bs : List Blk} {sz : Nat} {e : TypeId} {c : Cap} {l : List α} (h : RowN n bs sz e c l.length) : c.exp n false = capL l := by
 cases l with
 | nil => rw [h.n rfl]; rfl
 | cons a l => exact h.r.exp' (by simp)
theorem RowN.nil {n : Nat} {bs : List Blk} {sz : Nat} {e : TypeId} : RowN n bs sz e .nil 0 := ⟨Row.nil,fun _ => rfl⟩
theorem RowN.other {n : Nat} {bs bs' : List Blk} {sz : Nat} {e e' : TypeId} {c : Cap} {len : Nat} (h : RowN n bs sz e c len) (g : Grew n bs bs' e') (he : e ≠ e') : RowN n bs' sz e c len := ⟨g.rows _ _ _ _ he h.r,h.n⟩
theorem rowN_app {B ext : List Blk} {ag : Bool} {sz bytes : Nat} {e : TypeId} {c : Cap} {l : List AV} {v : AV} {len : Nat} (h : RowN B.length (B ++ ext) sz e c len) (hlen : l.length = len) (hl : l.all (shaped ag sz) = true) (hv : shaped ag sz v = true) (hn : nol v = v)
  (hs : 0 < sz) (hb : (len + 1) * bytes <= 140737488355328) (hb' : len + 1 <= 140737488355328) :
  ∃ c' ext',(∀ T,aApp { blks := B ++ ext,touched := T } ag sz bytes e (.list c l) (.list .full [v]) = some (.list c' (l ++ [v]),{ blks := B ++ ext',touched := T })) /\ RowN B.length (B ++ ext') sz e c' (len + 1) /\ Grew B.length (B ++ ext) (B ++ ext') e := by
 subst hlen
 obtain ⟨c',e',a,r,g⟩ := row_app (bytes := bytes) h.r hl hv hn hs hb hb'
 exact ⟨c',e',a,⟨r,fun h => by omega⟩,g⟩
theorem copies_snoc (l : List Idx) (i : Nat) (h : i < l.length) : Idx.avs (copies (l.take (i + 1))) = Idx.avs (copies (l.take i)) ++ [l[i].copy.av] := by
 rw [copies_eq,copies_eq,Idx.avs_eq,Idx.avs_eq,List.take_succ_eq_append_getElem h,List.map_append,List.map_append]; rfl
theorem scopies_snoc (l : List Stp) (i : Nat) (h : i < l.length) : Stp.avs (scopies (l.take (i + 1))) = Stp.avs (scopies (l.take i)) ++ [l[i].copy.av] := by
 rw [scopies_eq,scopies_eq,Stp.avs_eq,Stp.avs_eq,List.take_succ_eq_append_getElem h,List.map_append,List.map_append]; rfl
theorem pl_snoc (l : List Plc) (i : Nat) (h : i < l.length) : ((l.take (i + 1)).map fun p => p.copy.av) = ((l.take i).map fun p => p.copy.av) ++ [l[i].copy.av] := by
 rw [List.take_succ_eq_append_getElem h,List.map_append]; rfl
theorem plc_copy_ok (p : Plc) (h : p.Ok) : p.copy.Ok := by
 have hs : ∀ x : Idx,x.Str -> x.copy.Str := by
  intro x
  refine Idx.ind' (Q := fun x => x.Str -> x.copy.Str) (fun k n s c l ih h => ?_) x
  refine ⟨h.1,?_⟩
  have : ∀ l : List Idx,(∀ y ∈ l,y.Str -> y.copy.Str) -> Idx.Strs l -> Idx.Strs (copies l) := by
   intro l
   induction l with
   | nil => intro _ _; trivial
   | cons a l ih2 => exact fun h1 h2 => ⟨h1 a (by simp) h2.1,ih2 (fun y hy => h1 y (by simp [hy])) h2.2⟩
  exact this l ih h.2
 refine ⟨h.1,capL_ok _,fun x hx => ?_⟩
 have hx' : x ∈ p.ix.map Idx.copy := by rw [<- copies_eq]; exact hx
 obtain ⟨y,hy,rfl⟩ := List.mem_map.1 hx'
 exact ⟨copy_ok y,hs y (h.2.2 y hy).2⟩
theorem idx_copy_str (x : Idx) : x.Str -> x.copy.Str := by
 refine Idx.ind' (Q := fun x => x.Str -> x.copy.Str) (fun k n s c l ih h => ?_) x
 refine ⟨h.1,?_⟩
 have : ∀ l : List Idx,(∀ y ∈ l,y.Str -> y.copy.Str) -> Idx.Strs l -> Idx.Strs (copies l) := by
  intro l
  induction l with
  | nil => intro _ _; trivial
  | cons a l ih2 => exact fun h1 h2 => ⟨h1 a (by simp) h2.1,ih2 (fun y hy => h1 y (by simp [hy])) h2.2⟩
 exact this l ih h.2
theorem scopies_okk (l : List Stp) : Stp.Oks l -> Stp.Oks (scopies l) := by
 refine Stp.lists (P := fun l => Stp.Oks l -> Stp.Oks (scopies l)) (fun l ih h => ?_) l
 induction l with
 | nil => trivial
 | cons a l ihl =>
  have ha := ih a (by simp)
  refine ⟨?_,ihl (fun y hy => ih y (by simp [hy])) h.2⟩
  obtain ⟨k,g,nm,cp,pl,size,to,cb,body,ce,els⟩ := a
  have h1 := h.1
  simp only [Stp.Ok] at h1
  simp only [Stp.body,Stp.els] at ha
  obtain ⟨a1,a2,a3,a4,a5,a6,a7,a8,a9⟩ := h1
  refine ⟨a1,capL_ok _,fun p hp => ?_,⟨copy_ok _,idx_copy_str _ a4.2⟩,⟨copy_ok _,idx_copy_str _ a5.2⟩,capL_ok _,ha.1 a7,capL_ok _,ha.2 a9⟩
  obtain ⟨q,hq,rfl⟩ := List.mem_map.1 hp
  exact plc_copy_ok q (a3 q hq)
theorem f98 (l : List Stp) : ∀ (c : Cap),okCap c -> Stp.Oks l -> Stp.wts l < 1000000000 -> ∀ m,cvl (C u) (.fn (.func 98) [] []) [.list c (Stp.avs l)] m = some (.list (capL l) (Stp.avs (scopies l)),m) := by
 refine Stp.lists (P := fun l => ∀ (c : Cap),okCap c -> Stp.Oks l -> Stp.wts l < 1000000000 -> ∀ m,cvl (C u) (.fn (.func 98) [] []) [.list c (Stp.avs l)] m = some (.list (capL l) (Stp.avs (scopies l)),m)) (fun l ih c hc hok hw m => ?_) l
 refine call_runs (g := g98) (by rfl) (by rfl) (by rfl) ?_
 simp only [List.map_cons,List.map_nil,exp_stps hc hok,g98,c98]
 have hll := Stp.wts_len l
 have hnl : ∀ M : Mem,M.nol = nol := fun _ => rfl
 let n := m.blks.length
 let MM : List Blk -> St -> Prop := fun ext st => st.mem = { blks := m.blks ++ ext,touched := [] }
 let O : Nat -> List Blk -> St -> Prop := fun i ext st => ∃ cp L,getE st.env 3 = .list cp L /\ RowN n (m.blks ++ ext) 14 66 cp i /\ Lvs true n 14 L (Stp.avs (scopies (l.take i)))
 refine Runs.seq' (M := fun st => MM [] st /\ getE st.env 0 = .list c (Stp.avs l)) (by simp [MM]) fun s1 ⟨h1,h2⟩ => ?_
 simp only [MM] at h1
 refine Runs.seq' (M := fun st => MM [] st /\ getE st.env 0 = .list c (Stp.avs l) /\ getE st.env 3 = .list .nil []) (by simp [MM,h1,h2]) fun s1 ⟨h1,h2,h3⟩ => ?_
 simp only [MM] at h1
 refine Runs.seq (M := fun st => ∃ ext,MM ext st /\ O l.length ext st) ?_ fun s2 ⟨ext,h1,cp,L,h2,h3,h4⟩ => ?_
 ·let J : Nat -> St -> Prop := fun i st => getE st.env 12 = .list c (Stp.avs l) /\ getE st.env 13 = .int .i64 l.length /\ getE st.env 14 = .int .i64 i
  let I : Nat -> St -> Prop := fun i st => J i st /\ ∃ ext,MM ext st /\ O i ext st
  refine Runs.seq' (M := fun st => J 0 st /\ MM [] st /\ getE st.env 3 = .list .nil []) (by simp [J,MM,h1,h2,h3,stps_len]) fun s4 ⟨a1,a2,a3⟩ => ?_
  refine Runs.block (Runs.upto (I := I) l.length ⟨a1,[],a2,.nil,[],a3,RowN.nil,Lvs.nil⟩ (fun i st hlt hst => ?_) (fun st hst => ?_))
  ·obtain ⟨⟨q1,q2,q3⟩,ext,h1,cp,L,h2,h3,h4⟩ := hst
   simp only [MM] at h1
   have hwi : IntKind.wrap .i64 ((i : Int) + 1) = (i : Int) + 1 := wrap_i64 (by omega) (by omega)
   have hg := stp_get l i hlt
   have hm : l[i] ∈ l := List.getElem_mem hlt
   have hoki := Stp.oks_mem hok _ hm
   obtain ⟨ih1,ih2⟩ := ih _ hm
   have hwm := Stp.wt_mem hm
   have hob := Stp.oks_body hoki
   have hge := Stp.wt_ge l[i]
   have hsn := scopies_snoc l i hlt
   generalize l[i] = y at *
   obtain ⟨k,g,nm,cpl,pl,x1,x2,cb,body,ce,els⟩ := y
   simp only [Stp.Ok] at hoki
   simp only [Stp.body,Stp.els] at ih1 ih2 hob hge
   simp only [Stp.wt] at hwm
   have e21a := fun m => f21 (u := u) x1 hoki.2.2.2.1.1 (by omega) m
   have e21b := fun m => f21 (u := u) x2 hoki.2.2.2.2.1.1 (by omega) m
   have eb := fun m => ih1 cb hoki.2.2.2.2.2.1 hob.1 (by omega) m
   have ee := fun m => ih2 ce hoki.2.2.2.2.2.2.2.1 hob.2 (by omega) m
   have hplw := plcsW_len pl
   have hcx1 := copy_ok x1
   have hcx2 := copy_ok x2
   obtain ⟨k1,n1,t1,c1,l1⟩ := x1
   obtain ⟨k2,n2,t2,c2,l2⟩ := x2
   have hcop : (Stp.mk k g nm cpl pl (Idx.mk k1 n1 t1 c1 l1) (Idx.mk k2 n2 t2 c2 l2) cb body ce els).copy = .mk k g nm (capL pl) (pl.map Plc.copy) (Idx.mk k1 n1 t1 c1 l1).copy (Idx.mk k2 n2 t2 c2 l2).copy (capL body) (scopies body) (capL els) (scopies els) := rfl
   rw [hcop] at hsn
   obtain ⟨c1',hc1⟩ : ∃ c',(Idx.mk k1 n1 t1 c1 l1).copy = .mk k1 n1 t1 c' (copies l1) := ⟨_,rfl⟩
   obtain ⟨c2',hc2⟩ : ∃ c',(Idx.mk k2 n2 t2 c2 l2).copy = .mk k2 n2 t2 c' (copies l2) := ⟨_,rfl⟩
   rw [hc1] at e21a hsn hcx1
   rw [hc2] at e21b hsn hcx2
   simp only [Idx.av,Stp.av,Stp.cells,Idx.four,List.cons_append,List.nil_append] at hg e21a e21b hsn
   have hnc1 : (Idx.avs (copies l1)).map nol = Idx.avs (copies l1) := by rw [Idx.avs_eq,List.map_map]; exact List.map_congr_left fun y _ => Idx.nol_av y
   have hnc2 : (Idx.avs (copies l2)).map nol = Idx.avs (copies l2) := by rw [Idx.avs_eq,List.map_map]; exact List.map_congr_left fun y _ => Idx.nol_av y
   have hnb1 : (Stp.avs (scopies body)).map nol = Stp.avs (scopies body) := by
    rw [Stp.avs_eq,List.map_map]; exact List.map_congr_left fun y _ => by simp only [Function.comp,Stp.av,nol,Stp.nol_cells]
   have hnb2 : (Stp.avs (scopies els)).map nol = Stp.avs (scopies els) := by
    rw [Stp.avs_eq,List.map_map]; exact List.map_congr_left fun y _ => by simp only [Function.comp,Stp.av,nol,Stp.nol_cells]
   have hzc1 : ∀ bs,frz bs n 8 (.list c1' (Idx.avs (copies l1))) = .list c1' (Idx.avs (copies l1)) := fun bs => by
    have := Idx.frz_av bs n 8 _ hcx1
    simp only [Idx.av,frz_agg8,List.map_cons,List.map_nil,AV.agg.injEq,List.cons.injEq] at this
    exact this.2.2.2.1
   have hzc2 : ∀ bs,frz bs n 8 (.list c2' (Idx.avs (copies l2))) = .list c2' (Idx.avs (copies l2)) := fun bs => by
    have := Idx.frz_av bs n 8 _ hcx2
    simp only [Idx.av,frz_agg8,List.map_cons,List.map_nil,AV.agg.injEq,List.cons.injEq] at this
    exact this.2.2.2.1
   have hzb1 : ∀ bs,frz bs n 8 (.list (capL body) (Stp.avs (scopies body))) = .list (capL body) (Stp.avs (scopies body)) := fun bs => frz_stps bs n (capL_ok body) (scopies_okk body hob.1)
   have hzb2 : ∀ bs,frz bs n 8 (.list (capL els) (Stp.avs (scopies els))) = .list (capL els) (Stp.avs (scopies els)) := fun bs => frz_stps bs n (capL_ok els) (scopies_okk els hob.2)
   let CC : List AV := [.int .i64 k,.int .i64 g,.str nm,.list cpl (pl.map Plc.av),.int .i64 k1,.int .i64 n1,.str t1,.list c1 (Idx.avs l1),.int .i64 k2,.int .i64 n2,.str t2,.list c2 (Idx.avs l2),.list cb (Stp.avs body),.list ce (Stp.avs els)]
   let V : Cap -> List AV -> List AV := fun cj lj => [.int .i64 k,.int .i64 g,.str nm,.list cj lj,.int .i64 k1,.int .i64 n1,.str t1,.list c1' (Idx.avs (copies l1)),.int .i64 k2,.int .i64 n2,.str t2,.list c2' (Idx.avs (copies l2)),.list (capL body) (Stp.avs (scopies body)),.list (capL els) (Stp.avs (scopies els))]
   refine Runs.seq' (M := fun st => J i st /\ MM ext st /\ getE st.env 3 = .list cp L /\ getE st.env 15 = .bool true) (by simp [J,MM,h1,h2,q1,q2,q3,hlt]) fun s5 ⟨⟨q1,q2,q3⟩,h1,h2,q4⟩ => ?_
   simp only [MM] at h1
   refine Runs.seq' (M := fun st => J i st /\ MM ext st /\ getE st.env 3 = .list cp L) (by simp [J,MM,h1,h2,q1,q2,q3,q4]) fun s5 ⟨⟨q1,q2,q3⟩,h1,h2⟩ => ?_
   simp only [MM] at h1
   refine Runs.seq (M := fun st => J i st /\ ∃ ext2,MM ext2 st /\ O (i + 1) ext2 st) ?_ fun s6 ⟨⟨q1,q2,q3⟩,ext2,h1,cp2,L2,h2,o1,o2⟩ => by
    simp only [MM] at h1
    exact Runs.fin (M := fun st => J (i + 1) st /\ MM ext2 st /\ getE st.env 3 = .list cp2 L2) .normal (by simp [J,MM,h1,h2,q1,q2,q3,hwi]) fun s' ⟨d1,d2,d3⟩ => .inl ⟨rfl,d1,ext2,d2,cp2,L2,d3,o1,o2⟩
   refine Runs.block ?_
   let J2 : St -> Prop := fun st => J i st /\ getE st.env 3 = .list cp L /\ ∃ v,getE st.env 5 = .lptr 5 v 0 /\ lget st.loc 5 = some (v,.cells CC)
   refine Runs.seq' (M := fun st => J2 st /\ MM ext st) (by simp [J2,J,MM,CC,h1,h2,q1,q2,q3,hlt,hg,stps_len]) fun s5 ⟨⟨⟨q1,q2,q3⟩,h2,v,q4,q5⟩,h1⟩ => ?_
   simp only [MM] at h1
   simp only [CC] at q5
   let J3 : Cap -> List AV -> St -> Prop := fun cj lj st => J i st /\ getE st.env 3 = .list cp L /\ ∃ v,getE st.env 6 = .lptr 6 v 0 /\ lget st.loc 6 = some (v,.cells (V cj lj))
   refine Runs.seq' (M := fun st => J3 .nil [] st /\ (∃ v,getE st.env 5 = .lptr 5 v 0 /\ lget st.loc 5 = some (v,.cells CC)) /\ MM ext st) (by
    simp [J3,J,MM,CC,V,h1,h2,q1,q2,q3,q4,q5,e21a,e21b,eb,ee,fills,chkLoad,chkNew,isSt]) fun s5 ⟨⟨⟨q1,q2,q3⟩,h2,v6,q6,q7⟩,⟨v,q4,q5⟩,h1⟩ => ?_
   simp only [MM] at h1
   simp only [CC] at q5
   simp only [V] at q7
   have hplen := plcsW_len pl
   let P : Nat -> List Blk -> St -> Prop := fun j x st => ∃ cj lj,J3 cj lj st /\ RowN n (m.blks ++ x) 2 74 cj j /\ Lvs true n 2 lj ((pl.take j).map fun p => p.copy.av)
   refine Runs.seq (M := fun st => ∃ x,MM x st /\ P pl.length x st /\ RowN n (m.blks ++ x) 14 66 cp i) ?_ fun s6 ⟨x,h1,⟨cj,lj,⟨⟨q1,q2,q3⟩,h2,v6,q6,q7⟩,r2,w2⟩,r3⟩ => ?_
   ·let JP : St -> Prop := fun st => getE st.env 38 = .list cpl (pl.map Plc.av) /\ getE st.env 39 = .int .i64 pl.length
    let I2 : Nat -> St -> Prop := fun j st => JP st /\ getE st.env 40 = .int .i64 j /\ ∃ x,MM x st /\ P j x st /\ RowN n (m.blks ++ x) 14 66 cp i
    refine Runs.seq' (M := fun st => JP st /\ getE st.env 40 = .int .i64 0 /\ MM ext st /\ J3 .nil [] st) (by
     simp [JP,J3,J,MM,V,h1,h2,q1,q2,q3,q4,q5,q6,q7]) fun s6 ⟨a1,a2,a3,a4⟩ => ?_
    refine Runs.block (Runs.upto (I := I2) pl.length ⟨a1,a2,ext,a3,⟨.nil,[],a4,RowN.nil,Lvs.nil⟩,h3⟩ (fun j st hlt2 hst => ?_) (fun st hst => ?_))
    ·obtain ⟨⟨y1,y2⟩,y3,x,h1,⟨cj,lj,⟨⟨q1,q2,q3⟩,h2,v6,q6,q7⟩,r2,w2⟩,r3⟩ := hst
     simp only [MM] at h1
     simp only [V] at q7
     have hwj : IntKind.wrap .i64 ((j : Int) + 1) = (j : Int) + 1 := wrap_i64 (by omega) (by omega)
     have hpm : pl[j] ∈ pl := List.getElem_mem hlt2
     have hpo := hoki.2.2.1 _ hpm
     have hpw := Plc.wt_mem hpm
     have hpsn := pl_snoc pl j hlt2
     have hge2 := plcs_ge pl[j]
     refine Runs.seq' (M := fun st => JP st /\ getE st.env 40 = .int .i64 j /\ MM x st /\ J3 cj lj st /\ getE st.env 41 = .bool true) (by
      simp [JP,J3,J,MM,V,h1,h2,q1,q2,q3,q6,q7,y1,y2,y3,hlt2]) fun s7 ⟨⟨y1,y2⟩,y3,h1,⟨⟨q1,q2,q3⟩,h2,v6,q6,q7⟩,y4⟩ => ?_
     simp only [MM] at h1
     simp only [V] at q7
     refine Runs.seq' (M := fun st => JP st /\ getE st.env 40 = .int .i64 j /\ MM x st /\ J3 cj lj st) (by
      simp [JP,J3,J,MM,V,h1,h2,q1,q2,q3,q6,q7,y1,y2,y3,y4]) fun s7 ⟨⟨y1,y2⟩,y3,h1,⟨⟨q1,q2,q3⟩,h2,v6,q6,q7⟩⟩ => ?_
     simp only [MM] at h1
     simp only [V] at q7
     refine Runs.seq (M := fun st => JP st /\ getE st.env 40 = .int .i64 j /\ ∃ x,MM x st /\ P (j + 1) x st /\ RowN n (m.blks ++ x) 14 66 cp i) ?_ fun s8 ⟨⟨y1,y2⟩,y3,x,h1,⟨cj,lj,⟨⟨q1,q2,q3⟩,h2,v6,q6,q7⟩,r2,w2⟩,r3⟩ => by
      simp only [MM] at h1
      simp only [V] at q7
      exact Runs.fin (M := fun st => JP st /\ getE st.env 40 = .int .i64 ((j : Int) + 1) /\ MM x st /\ J3 cj lj st) .normal (by
       simp [JP,J3,J,MM,V,h1,h2,q1,q2,q3,q6,q7,y1,y2,y3,hwj]) fun s' ⟨d1,d2,d3,d4⟩ => .inl ⟨rfl,d1,d2,x,d3,⟨cj,lj,d4,r2,w2⟩,r3⟩
     refine Runs.block ?_
     let JQ : St -> Prop := fun st => JP st /\ getE st.env 40 = .int .i64 j /\ J3 cj lj st
     refine Runs.seq' (M := fun st => JQ st /\ MM x st /\ ∃ v,getE st.env 8 = .lptr 8 v 0 /\ lget st.loc 8 = some (v,.cells [.str pl[j].name,.list pl[j].c (Idx.avs pl[j].ix)])) (by
      simp [JQ,JP,J3,J,MM,V,h1,h2,q1,q2,q3,q6,q7,y1,y2,y3,hlt2,Plc.av,Idx.avs_eq]) fun s7 ⟨⟨⟨y1,y2⟩,y3,⟨⟨q1,q2,q3⟩,h2,v6,q6,q7⟩⟩,h1,v8,z1,z2⟩ => ?_
     simp only [MM] at h1
     simp only [V] at q7
     let B9 : Cap -> List AV -> St -> Prop := fun cq lq st => ∃ v,getE st.env 9 = .lptr 9 v 0 /\ lget st.loc 9 = some (v,.cells [.str pl[j].name,.list cq lq])
     refine Runs.seq' (M := fun st => JQ st /\ MM x st /\ B9 .nil [] st /\ ∃ v,getE st.env 8 = .lptr 8 v 0 /\ lget st.loc 8 = some (v,.cells [.str pl[j].name,.list pl[j].c (Idx.avs pl[j].ix)])) (by
      simp [JQ,JP,J3,J,MM,V,B9,h1,h2,q1,q2,q3,q6,q7,y1,y2,y3,z1,z2,fills]) fun s7 ⟨⟨⟨y1,y2⟩,y3,⟨⟨q1,q2,q3⟩,h2,v6,q6,q7⟩⟩,h1,⟨v9,z3,z4⟩,v8,z1,z2⟩ => ?_
     simp only [MM] at h1
     simp only [V] at q7
     refine Runs.seq (M := fun st => ∃ x2 cq lq,MM x2 st /\ JQ st /\ B9 cq lq st /\ RowN n (m.blks ++ x2) 4 27 cq pl[j].ix.length /\ Lvs true n 4 lq (Idx.avs (copies pl[j].ix)) /\ RowN n (m.blks ++ x2) 2 74 cj j /\ RowN n (m.blks ++ x2) 14 66 cp i) ?_ fun s8 ⟨x2,cq,lq,h1,⟨⟨y1,y2⟩,y3,⟨⟨q1,q2,q3⟩,h2,v6,q6,q7⟩⟩,⟨v9,z3,z4⟩,r4,w4,r2,r3⟩ => ?_
     ·let JX : St -> Prop := fun st => getE st.env 48 = .list pl[j].c (Idx.avs pl[j].ix) /\ getE st.env 49 = .int .i64 pl[j].ix.length
      let I3 : Nat -> St -> Prop := fun q st => JX st /\ getE st.env 50 = .int .i64 q /\ ∃ x2 cq lq,MM x2 st /\ JQ st /\ B9 cq lq st /\ RowN n (m.blks ++ x2) 4 27 cq q /\ Lvs true n 4 lq (Idx.avs (copies (pl[j].ix.take q))) /\ RowN n (m.blks ++ x2) 2 74 cj j /\ RowN n (m.blks ++ x2) 14 66 cp i
      refine Runs.seq' (M := fun st => JX st /\ getE st.env 50 = .int .i64 0 /\ MM x st /\ JQ st /\ B9 .nil [] st) (by
       simp [JX,JQ,JP,J3,J,MM,V,B9,h1,h2,q1,q2,q3,q6,q7,y1,y2,y3,z1,z2,z3,z4,avs_len]) fun s8 ⟨a1,a2,a3,a4,a5⟩ => ?_
      refine Runs.block (Runs.upto (I := I3) pl[j].ix.length ⟨a1,a2,x,.nil,[],a3,a4,a5,RowN.nil,Lvs.nil,r2,r3⟩ (fun q st hlt3 hst => ?_) (fun st hst => ?_))
      ·obtain ⟨⟨p1,p2⟩,p3,x2,cq,lq,h1,⟨⟨y1,y2⟩,y3,⟨⟨q1,q2,q3⟩,h2,v6,q6,q7⟩⟩,⟨v9,z3,z4⟩,r4,w4,r2,r3⟩ := hst
       simp only [MM] at h1
       simp only [V] at q7
       have hwq : IntKind.wrap .i64 ((q : Int) + 1) = (q : Int) + 1 := wrap_i64 (by omega) (by omega)
       have hxm : pl[j].ix[q] ∈ pl[j].ix := List.getElem_mem hlt3
       have hxo := (hpo.2.2 _ hxm).1
       have hxc := Idx.cnt_mem hxm
       have e21 := fun m => f21 (u := u) pl[j].ix[q] hxo (by simp only [Plc.wt] at hpw; omega) m
       have hxg := avs_get pl[j].ix q hlt3
       have hcs := copies_snoc pl[j].ix q hlt3
       have hlv := Lv.ix n (pl[j].ix[q]).copy (copy_ok _)
       generalize pl[j].ix[q] = xx at *
       obtain ⟨ka,na,ta,ca,la⟩ := xx
       obtain ⟨ca',hca⟩ : ∃ c',(Idx.mk ka na ta ca la).copy = .mk ka na ta c' (copies la) := ⟨_,rfl⟩
       rw [hca] at e21 hcs hlv
       simp only [Idx.av] at hxg e21 hcs hlv
       have hlql : lq.length = q := by
        have := w4.len
        rw [avs_len,copies_len,List.length_take] at this
        omega
       obtain ⟨cq',x3,a1,r5,gr⟩ := rowN_app (bytes := 56) (v := .agg [.int .i64 ka,.int .i64 na,.str ta,.list ca' (Idx.avs (copies la))]) r4 hlql w4.s rfl hlv.n (by decide) (by omega) (by omega)
       have hnn := hlv.n
       simp only [nol,nols,AV.agg.injEq,List.cons.injEq,nols_eq,AV.list.injEq,true_and,and_true] at hnn
       refine Runs.fin (M := fun st => JX st /\ getE st.env 50 = .int .i64 ((q : Int) + 1) /\ MM x3 st /\ JQ st /\ B9 cq' (lq ++ [.agg [.int .i64 ka,.int .i64 na,.str ta,.list ca' (Idx.avs (copies la))]]) st) .normal (by
        simp [l98_0,JX,JQ,JP,J3,J,MM,V,B9,h1,h2,q1,q2,q3,q6,q7,y1,y2,y3,z3,z4,p1,p2,p3,hlt3,hxg,avs_len,e21,chkLoad,isSt,hnl,nol,nols,nols_eq,hnn,shaped,a1,hwq]) fun s' ⟨d1,d2,d3,d4,d5⟩ => .inl ⟨rfl,d1,d2,x3,cq',_,d3,d4,d5,r5,?_,r2.other gr (by decide),r3.other gr (by decide)⟩
       rw [hcs]
       exact w4.snoc hlv rfl
      ·obtain ⟨⟨p1,p2⟩,p3,x2,cq,lq,h1,⟨⟨y1,y2⟩,y3,⟨⟨q1,q2,q3⟩,h2,v6,q6,q7⟩⟩,⟨v9,z3,z4⟩,r4,w4,r2,r3⟩ := hst
       simp only [MM] at h1
       simp only [V] at q7
       rw [List.take_length] at w4
       refine Runs.fin (M := fun st => MM x2 st /\ JQ st /\ B9 cq lq st) (.exit 4) (by
        simp [l98_0,JQ,JP,J3,J,MM,V,B9,h1,h2,q1,q2,q3,q6,q7,y1,y2,y3,z3,z4,p1,p2,p3]) fun s' ⟨d1,d2,d3⟩ => ?_
       exact ⟨by simp,.inl ⟨rfl,.inl ⟨rfl,x2,cq,lq,d1,d2,d3,r4,w4,r2,r3⟩⟩⟩
     ·simp only [MM] at h1
      simp only [V] at q7
      have hljl : lj.length = j := by
       have := w2.len
       rw [List.length_map,List.length_take] at this
       omega
      have hlist := w4.list cq
      rw [r4.exp] at hlist
      have hv : Lv n (.agg [.str pl[j].name,.list cq lq]) pl[j].copy.av := by
       rw [Plc.copy_av]
       exact Lv.agg (fun bs => by simp only [List.map_cons,List.map_nil,frz_str,hlist.z bs]) (by simp only [List.map_cons,List.map_nil,nol,nols_eq,w4.n])
      obtain ⟨cj',x3,a1,r5,gr⟩ := rowN_app (bytes := 40) (v := .agg [.str pl[j].name,.list cq lq]) r2 hljl w2.s rfl hv.n (by decide) (by omega) (by omega)
      refine Runs.fin (M := fun st => JP st /\ getE st.env 40 = .int .i64 j /\ MM x3 st /\ J3 cj' (lj ++ [.agg [.str pl[j].name,.list cq lq]]) st) .normal (by
       simp [JP,J3,J,MM,V,h1,h2,q1,q2,q3,q6,q7,y1,y2,y3,z3,z4,hnl,nol,nols,nols_eq,w4.n,shaped,a1]) fun s' ⟨d1,d2,d3,d4⟩ => ?_
      have hP : P (j + 1) x3 s' := ⟨cj',_,d4,r5,by rw [hpsn]; exact w2.snoc hv rfl⟩
      simp
      exact ⟨d1,d2,x3,d3,hP,r3.other gr (by decide)⟩
    ·obtain ⟨⟨y1,y2⟩,y3,x,h1,⟨cj,lj,⟨⟨q1,q2,q3⟩,h2,v6,q6,q7⟩,r2,w2⟩,r3⟩ := hst
     simp only [MM] at h1
     simp only [V] at q7
     refine Runs.fin (M := fun st => MM x st /\ J3 cj lj st) (.exit 2) (by
      simp [l98_1,JP,J3,J,MM,V,h1,h2,q1,q2,q3,q6,q7,y1,y2,y3]) fun s' ⟨d1,d2⟩ => ?_
     exact ⟨by simp,.inl ⟨rfl,.inl ⟨rfl,x,d1,⟨cj,lj,d2,r2,w2⟩,r3⟩⟩⟩
   ·simp only [MM] at h1
    simp only [V] at q7
    rw [List.take_length] at w2
    have hLl : L.length = i := by
     have := h4.len
     rw [stps_len,scopies_len,List.length_take] at this
     omega
    have hlist := w2.list cj
    rw [r2.exp] at hlist
    have hmc : (pl.map fun p => p.copy.av) = (pl.map Plc.copy).map Plc.av := by rw [List.map_map]; rfl
    have hv : Lv n (.agg (V cj lj)) (.agg (V (capL pl) ((pl.map Plc.copy).map Plc.av))) := by
     refine Lv.agg (fun bs => ?_) ?_
     ·simp only [V,List.map_cons,List.map_nil,frz_str,frz_int,hzc1 bs,hzc2 bs,hzb1 bs,hzb2 bs,hlist.z bs,hmc]
     ·simp only [V,List.map_cons,List.map_nil,nol,nols_eq,w2.n,hnc1,hnc2,hnb1,hnb2]
    obtain ⟨cp',x3,a1,r5,gr⟩ := rowN_app (bytes := 216) (v := .agg (V cj lj)) r3 hLl h4.s rfl hv.n (by decide) (by omega) (by omega)
    simp only [V] at a1
    refine Runs.fin (M := fun st => J i st /\ MM x3 st /\ getE st.env 3 = .list cp' (L ++ [.agg (V cj lj)])) .normal (by
     simp [J,MM,V,h1,h2,q1,q2,q3,q6,q7,hnl,nol,nols,nols_eq,w2.n,hnc1,hnc2,hnb1,hnb2,shaped,a1]) fun s' ⟨d1,d2,d3⟩ => ?_
    have hO : O (i + 1) x3 s' := ⟨cp',_,d3,r5,by rw [hsn]; exact h4.snoc hv rfl⟩
    simp
    exact ⟨d1,x3,d2,hO⟩
  ·obtain ⟨⟨q1,q2,q3⟩,ext,h1,h2⟩ := hst
   simp only [MM] at h1
   obtain ⟨cp,L,h2,h3,h4⟩ := h2
   refine Runs.fin (M := fun st => MM ext st /\ getE st.env 3 = .list cp L) (.exit 0) (by simp [MM,l98_2,h1,h2,q1,q2,q3]) fun s' ⟨d1,d2⟩ => ?_
   exact ⟨by simp,.inl ⟨rfl,.inl ⟨rfl,ext,d1,cp,L,d2,h3,h4⟩⟩⟩
 ·simp only [MM] at h1
  rw [List.take_length] at h4
  have hz := (h4.list cp).z
  rw [h3.exp] at hz
  simp [h1,h2,hz,n] at hz ⊢
  try exact hz _
end Go.Abs.Tz
set_option maxRecDepth 100000
set_option maxHeartbeats 8000000
namespace Go.Abs.Tz
open Go.Abs
variable {u : Nat}
attribute [local simp] exec aops astep wantedA aop evO setO setU getE getE_setE lget lget_lset aBin aInt aUn AV.cells newVar padd rd wr asElem single splice aStr adraw ascan Runs gets RV.get tupled frz_int frz_bool
theorem prc_copy_ok (p : Prc) (h : p.Ok) : p.copy.Ok := ⟨h.1,h.2.1,h.2.2.1,capL_ok _,scopies_okk _ h.2.2.2.2.1,h.2.2.2.2.2⟩
theorem pcopies_ok (ps : List Prc) (h : ∀ x ∈ ps,x.Ok) : ∀ x ∈ pcopies ps,x.Ok := by
 intro x hx
 obtain ⟨p,hp,rfl⟩ := List.mem_map.1 hx
 exact prc_copy_ok p (h p hp)
theorem f20 (cps : Cap) (hcps : okCap cps) (ps : List Prc) (hps : ∀ x ∈ ps,x.Ok) (hpw : prcsW ps < 1000000000) (m : Mem) :
  cvl (C u) (.fn (.func 20) [] []) [prgAV cps ps] m = some (prgAV (capL ps) (pcopies ps),m) := by
 refine call_runs (g := g20) (by rfl) (by rfl) (by rfl) ?_
 simp only [List.map_cons,List.map_nil,exp_prg hcps hps]
 simp only [g20,c20,prgAV]
 have hlen := prcsW_len ps
 have hnl : ∀ M : Mem,M.nol = nol := fun _ => rfl
 let n := m.blks.length
 let MM : List Blk -> St -> Prop := fun ext st => st.mem = { blks := m.blks ++ ext,touched := [] }
 let K : St -> Prop := fun st => getE st.env 2 = .lptr 2 0 0 /\ lget st.loc 2 = some (0,.cells [.list .nil []])
 let B3 : Cap -> List AV -> St -> Prop := fun c l st => ∃ v,getE st.env 3 = .lptr 3 v 0 /\ lget st.loc 3 = some (v,.cells [.list c l])
 refine Runs.seq' (M := fun st => K st /\ MM [] st /\ getE st.env 1 = .lptr 1 0 0 /\ lget st.loc 1 = some (0,.cells [.list cps (ps.map Prc.av)])) (by simp [K,MM,newVer]) fun s1 ⟨⟨h1,h2⟩,h3,h4,h5⟩ => ?_
 simp only [MM] at h3
 refine Runs.seq' (M := fun st => K st /\ MM [] st /\ B3 .nil [] st /\ getE st.env 1 = .lptr 1 0 0 /\ lget st.loc 1 = some (0,.cells [.list cps (ps.map Prc.av)])) (by simp [K,MM,B3,h1,h2,h3,h4,h5]) fun s1 ⟨⟨h1,h2⟩,h3,⟨v3,h6,h7⟩,h4,h5⟩ => ?_
 simp only [MM] at h3
 refine Runs.seq (M := fun st => K st /\ ∃ ext cp L,MM ext st /\ B3 cp L st /\ RowN n (m.blks ++ ext) 3 70 cp ps.length /\ Lvs true n 3 L ((pcopies ps).map Prc.av)) ?_ fun s2 ⟨⟨h1,h2⟩,ext,cp,L,h3,⟨v3,h6,h7⟩,r,w⟩ => ?_
 ·let J : Nat -> St -> Prop := fun i st => K st /\ getE st.env 7 = .list cps (ps.map Prc.av) /\ getE st.env 8 = .int .i64 ps.length /\ getE st.env 9 = .int .i64 i
  let I : Nat -> St -> Prop := fun i st => J i st /\ ∃ ext cp L,MM ext st /\ B3 cp L st /\ RowN n (m.blks ++ ext) 3 70 cp i /\ Lvs true n 3 L ((pcopies (ps.take i)).map Prc.av)
  refine Runs.seq' (M := fun st => J 0 st /\ MM [] st /\ B3 .nil [] st) (by simp [J,K,MM,B3,h1,h2,h3,h4,h5,h6,h7]) fun s4 ⟨a1,a2,a3⟩ => ?_
  refine Runs.block (Runs.upto (I := I) ps.length ⟨a1,[],.nil,[],a2,a3,RowN.nil,Lvs.nil⟩ (fun i st hlt hst => ?_) (fun st hst => ?_))
  ·obtain ⟨⟨⟨h1,h2⟩,q1,q2,q3⟩,ext,cp,L,h3,⟨v3,h6,h7⟩,r,w⟩ := hst
   simp only [MM] at h3
   have hwi : IntKind.wrap .i64 ((i : Int) + 1) = (i : Int) + 1 := wrap_i64 (by omega) (by omega)
   have hm : ps[i] ∈ ps := List.getElem_mem hlt
   have hok := hps _ hm
   have hwm := Prc.wt_mem hm
   simp only [Prc.wt] at hwm
   have hpc : (ps[i].cp = .nil /\ ps[i].pars = []) \/ ps[i].cp = .any := by
    rcases hok.2.1 with h | h
    ·exact .inl ⟨h,hok.2.2.2.2.2 h⟩
    ·exact .inr h
   have e97 := fun m => f97 (u := u) ps[i].cp ps[i].pars hpc (by omega) m
   have e98 := fun m => f98 (u := u) ps[i].body ps[i].cb hok.2.2.2.1 hok.2.2.2.2.1 (by omega) m
   have hsn : (pcopies (ps.take (i + 1))).map Prc.av = (pcopies (ps.take i)).map Prc.av ++ [ps[i].copy.av] := by
    simp only [pcopies]
    rw [List.take_succ_eq_append_getElem hlt,List.map_append,List.map_append]; rfl
   have hLl : L.length = i := by
    have := w.len
    rw [List.length_map,pcopies,List.length_map,List.length_take] at this
    omega
   have hv : Lv n (.agg [.str ps[i].name,.list ps[i].cp (ps[i].pars.map Par.av),.list (capL ps[i].body) (Stp.avs (scopies ps[i].body))]) ps[i].copy.av := by
    have hpo := prc_copy_ok _ hok
    have e1 : (ps[i].pars.map Par.av).map nol = ps[i].pars.map Par.av := by rw [List.map_map]; exact List.map_congr_left fun _ _ => rfl
    have e2 : (Stp.avs (scopies ps[i].body)).map nol = Stp.avs (scopies ps[i].body) := by
     rw [Stp.avs_eq,List.map_map]; exact List.map_congr_left fun y _ => by simp only [Function.comp,Stp.av,nol,Stp.nol_cells]
    have e3 : ∀ bs,frz bs n 8 (.list ps[i].cp (ps[i].pars.map Par.av)) = .list ps[i].cp (ps[i].pars.map Par.av) := fun bs => by
     rw [frz_list8,exp_cap hok.2.1,List.map_map]; congr 1
    refine Lv.agg (fun bs => ?_) ?_
    ·simp only [List.map_cons,List.map_nil,frz_str,e3 bs,frz_stps bs n (capL_ok _) (scopies_okk _ hok.2.2.2.2.1),Prc.copy]
    ·simp only [List.map_cons,List.map_nil,nol,nols_eq,e1,e2]
   have hnn := hv.n
   simp only [nol,nols,AV.agg.injEq,List.cons.injEq,nols_eq,AV.list.injEq,true_and,and_true] at hnn
   obtain ⟨cp',x3,a1,r5,gr⟩ := rowN_app (bytes := 64) r hLl w.s rfl hv.n (by decide) (by omega) (by omega)
   refine Runs.seq' (M := fun st => J i st /\ MM ext st /\ B3 cp L st /\ getE st.env 10 = .bool true) (by simp [J,K,MM,B3,h1,h2,h3,h6,h7,q1,q2,q3,hlt]) fun s5 ⟨⟨⟨h1,h2⟩,q1,q2,q3⟩,h3,⟨v3,h6,h7⟩,q4⟩ => ?_
   simp only [MM] at h3
   refine Runs.seq' (M := fun st => J i st /\ MM ext st /\ B3 cp L st) (by simp [J,K,MM,B3,h1,h2,h3,h6,h7,q1,q2,q3,q4]) fun s5 ⟨⟨⟨h1,h2⟩,q1,q2,q3⟩,h3,⟨v3,h6,h7⟩⟩ => ?_
   simp only [MM] at h3
   refine Runs.fin (M := fun st => J (i + 1) st /\ MM x3 st /\ B3 cp' (L ++ [.agg [.str ps[i].name,.list ps[i].cp (ps[i].pars.map Par.av),.list (capL ps[i].body) (Stp.avs (scopies ps[i].body))]]) st) .normal (by
    simp [J,K,MM,B3,h1,h2,h3,h6,h7,q1,q2,q3,hlt,Prc.av,e97,e98,chkLoad,isSt,fills,hnl,nol,nols,nols_eq,hnn,shaped,a1,hwi]) fun s' ⟨d1,d2,d3⟩ => .inl ⟨rfl,d1,x3,cp',_,d2,d3,r5,?_⟩
   rw [hsn]
   exact w.snoc hv rfl
  ·obtain ⟨⟨⟨h1,h2⟩,q1,q2,q3⟩,ext,cp,L,h3,⟨v3,h6,h7⟩,r,w⟩ := hst
   simp only [MM] at h3
   rw [List.take_length] at w
   refine Runs.fin (M := fun st => K st /\ MM ext st /\ B3 cp L st) (.exit 0) (by simp [l20_0,K,MM,B3,h1,h2,h3,h6,h7,q1,q2,q3]) fun s' ⟨d1,d2,d3⟩ => ?_
   exact ⟨by simp,.inl ⟨rfl,.inl ⟨rfl,d1,ext,cp,L,d2,d3,r,w⟩⟩⟩
 ·simp only [MM] at h3
  have hz := (w.list cp).z
  rw [r.exp] at hz
  have hz2 : ∀ bs,frz bs m.blks.length 8 (.agg [.list cp L]) = .agg [.list (capL ps) ((pcopies ps).map Prc.av)] := fun bs => by
   rw [frz_agg8]; simp only [List.map_cons,List.map_nil]; rw [hz bs]
  simp [h1,h2,h3,h6,h7,hz2]
end Go.Abs.Tz
