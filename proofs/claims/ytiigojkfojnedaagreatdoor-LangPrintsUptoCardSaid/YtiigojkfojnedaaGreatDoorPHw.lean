/- A text of this proof. -/
import Derived.Test.YtiigojkfojnedaaGreatDoorPHv
set_option linter.unusedVariables false
set_option linter.unusedSimpArgs false
set_option maxRecDepth 100000
set_option maxHeartbeats 8000000
namespace Go.Abs.Tz
open Go.Abs
variable {u : Nat}
attribute [local simp] exec aops astep wantedA aop evO setO setU getE getE_setE lget lget_lset aBin aInt aUn AV.cells newVar padd rd wr asElem single splice adraw ascan Runs gets RV.get tupled frz_int frz_bool frz_str
theorem aStr_add {a b : List Nat} (h : a.length + b.length < 1000000000000) : aStr .add a b = some (.str (a ++ b)) := by
 simp only [aStr]
 rw [if_neg]
 show ¬ ((a.length + b.length : Nat) : Int) > 9223372036854775807
 omega
theorem dig : ∀ r,r < 10 -> List.drop r (48 :: List.take r ([49,50,51,52,53,54,55,56,57] : List Nat)) = [48 + r] := by decide
theorem f101 (n : Int) (h0 : 0 <= n) (h1 : n < 100) (m : Mem) : cvl (C u) (.fn (.func 101) [] []) [.int .i64 n] m = some (.str (dec2 n.toNat),m) := by
 obtain ⟨N,rfl⟩ : ∃ N : Nat,n = N := ⟨n.toNat,by omega⟩
 have hN : N < 100 := by omega
 refine call_runs (g := g101) (by rfl) (by rfl) (by rfl) ?_
 simp only [List.map_cons,List.map_nil,exp,g101,c101,Int.toNat_natCast]
 have e1 : (N : Int).tmod 10 = ((N % 10 : Nat) : Int) := by rw [Int.tmod_eq_emod_of_nonneg (by omega)]; omega
 have e2 : (N : Int).tdiv 10 = ((N / 10 : Nat) : Int) := by rw [Int.tdiv_eq_ediv_of_nonneg (by omega)]; omega
 have e3 : ((N / 10 : Nat) : Int).tmod 10 = ((N / 10 : Nat) : Int) := by rw [Int.tmod_eq_emod_of_nonneg (by omega)]; omega
 have e4 : ((N / 10 : Nat) : Int).tdiv 10 = 0 := by rw [Int.tdiv_eq_ediv_of_nonneg (by omega)]; omega
 have w1 : IntKind.wrap .i64 (((N % 10 : Nat) : Int) + 1) = ((N % 10 + 1 : Nat) : Int) := by rw [wrap_i64 (by omega) (by omega)]; omega
 have w2 : IntKind.wrap .i64 (((N / 10 : Nat) : Int) + 1) = ((N / 10 + 1 : Nat) : Int) := by rw [wrap_i64 (by omega) (by omega)]; omega
 have w3 : IntKind.wrap .i64 ((N / 10 : Nat) : Int) = ((N / 10 : Nat) : Int) := wrap_i64 (by omega) (by omega)
 have w4 : IntKind.wrap .i64 0 = 0 := by decide
 have d1 := dig (N % 10) (by omega)
 have d2 := dig (N / 10) (by omega)
 have b1 : N % 10 + 1 <= 10 := by omega
 have b2 : N / 10 + 1 <= 10 := by omega
 let K : St -> Prop := fun st => st.mem = { blks := m.blks,touched := [] }
 refine Runs.seq' (M := fun st => K st /\ getE st.env 0 = .int .i64 N) (by simp [K]) fun s1 ⟨h1,h2⟩ => ?_
 simp only [K] at h1
 generalize hq : N / 10 = q at *
 generalize hr : N % 10 = r at *
 have b1' : (0 : Int) <= (r : Int) + 1 /\ (r : Int) + 1 <= 10 := by omega
 have b3 : (r : Int) <= (r : Int) + 1 := by omega
 have b4 : (q : Int) <= (q : Int) + 1 := by omega
 have b2' : (0 : Int) <= (q : Int) + 1 /\ (q : Int) + 1 <= 10 := by omega
 refine Runs.seq' (M := fun st => K st /\ getE st.env 0 = .int .i64 N /\ getE st.env 3 = .str [48 + r]) (by simp [K,h1,h2,e1,w1,bound,b1',b3,d1]) fun s1 ⟨h1,h2,h3⟩ => ?_
 simp only [K] at h1
 refine Runs.seq (M := fun st => K st /\ getE st.env 3 = .str (dec2 N)) ?_ fun s1 ⟨h1,h2⟩ => ?_
 ·refine Runs.seq' (M := fun st => K st /\ getE st.env 0 = .int .i64 q /\ getE st.env 3 = .str [48 + r]) (by simp [K,h1,h2,h3,e2,w3]) fun s1 ⟨h1,h2,h3⟩ => ?_
  let I : Nat -> St -> Prop := fun i st => K st /\ ((i = 0 /\ getE st.env 0 = .int .i64 q /\ getE st.env 3 = .str [48 + r]) \/ (i = 1 /\ 10 <= N /\ getE st.env 0 = .int .i64 0 /\ getE st.env 3 = .str (dec2 N)))
  refine Runs.block (Runs.loop (I := I) 1 ⟨h1,.inl ⟨rfl,h2,h3⟩⟩ fun i st hi hst => ?_)
  obtain ⟨h1,⟨rfl,h2,h3⟩ | ⟨rfl,h4,h2,h3⟩⟩ := hst
  ·simp only [K] at h1
   by_cases hlt : N < 10
   ·right
    have : q = 0 := by omega
    subst this
    have hd : dec2 N = [48 + r] := by simp [dec2,hlt]; omega
    simp [K,l101_0,h1,h2,h3,hd]
   ·left
    refine ⟨by omega,?_⟩
    have hq0 : (0 : Int) < (q : Int) := by omega
    have hq0' : 0 < q := by omega
    have hd : dec2 N = [48 + q,48 + r] := by simp [dec2,hlt,hq,hr]
    have ha : aStr .add [48 + q] [48 + r] = some (.str [48 + q,48 + r]) := aStr_add (by simp)
    simp [I,K,l101_0,h1,h2,h3,hq0,hq0',e3,e4,w2,w4,bound,b2',b4,d2,hd,ha]
    try omega
  ·right
   simp only [K] at h1
   simp [K,l101_0,h1,h2,h3]
 ·simp only [K] at h1
  simp [h1,h2]
theorem shp_cases {k n : Int} {s : List Nat} {c : Cap} {l : List Idx} (h : (Idx.mk k n s c l).Shp) : (k = 1 /\ 0 <= n /\ n < 100 /\ l = []) \/ (k = 2 /\ l = []) \/ ((k = 3 \/ k = 4 \/ k = 5) /\ ∃ a b,l = [a,b]) := by
 simp only [Idx.Shp] at h
 obtain ⟨h1,-,-⟩ := h
 unfold shapeE at h1
 by_cases c1 : k < 1 \/ 5 < k \/ (k = 1 /\ (n < 0 \/ 99 < n))
 ·rw [if_pos c1] at h1; cases h1
 rw [if_neg c1] at h1
 by_cases c2 : (3 <= k /\ l.length ≠ 2) \/ (k < 3 /\ l.length ≠ 0)
 ·rw [if_pos c2] at h1; cases h1
 have hk : k = 1 \/ k = 2 \/ 3 <= k := by omega
 rcases hk with hk | hk | hk
 ·exact .inl ⟨hk,by omega,by omega,List.eq_nil_of_length_eq_zero (by omega)⟩
 ·exact .inr (.inl ⟨hk,List.eq_nil_of_length_eq_zero (by omega)⟩)
 ·have h2 : l.length = 2 := by omega
  match l,h2 with
  | [a,b],_ => exact .inr (.inr ⟨by omega,a,b,rfl⟩)
theorem paren_false (s : List Nat) : paren false s = s := rfl
theorem f104 (x : Idx) : x.Ok -> x.Shp -> x.cnt < 1000000 -> ∀ (b : Bool) (m : Mem),cvl (C u) (.fn (.func 104) [] []) [x.av,.bool b] m = some (.str (paren b x.text),m) := by
 refine Idx.ind' (Q := fun x => x.Ok -> x.Shp -> x.cnt < 1000000 -> ∀ (b : Bool) (m : Mem),cvl (C u) (.fn (.func 104) [] []) [x.av,.bool b] m = some (.str (paren b x.text),m)) (fun k n s c l ih hok hsh hcnt => ?_) x
 have hlen := Idx.text_len _ hsh
 have hno : ∀ m,cvl (C u) (.fn (.func 104) [] []) [(Idx.mk k n s c l).av,.bool false] m = some (.str (Idx.mk k n s c l).text,m) := by
  intro m
  refine call_runs (g := g104) (by rfl) (by rfl) (by rfl) ?_
  simp only [List.map_cons,List.map_nil,Idx.exp_av _ _ _ hok,exp,g104,c104]
  rcases shp_cases hsh with ⟨rfl,hn1,hn2,rfl⟩ | ⟨rfl,rfl⟩ | ⟨hk,a,b,rfl⟩
  ·have e := fun m => f101 (u := u) n hn1 hn2 m
   simp [Idx.av,Idx.text,joinT,e]
  ·simp [Idx.av,Idx.text,joinT]
  ·have iha := ih a (by simp) hok.2.1 hsh.2.2.1 (by simp only [Idx.cnt,Idx.cnts] at hcnt; omega)
   have ihb := ih b (by simp) hok.2.2.1 hsh.2.2.2.1 (by simp only [Idx.cnt,Idx.cnts] at hcnt; omega)
   simp only [Idx.text,Idx.texts,joinT,List.map_cons,List.map_nil] at hlen ⊢
   generalize hta : a.text = ta at *
   generalize htb : b.text = tb at *
   obtain ⟨ka,na,sa,ca,la⟩ := a
   obtain ⟨kb,nb,sb,cb,lb⟩ := b
   simp only [Idx.av,Idx.avs,Idx.kind] at iha ihb hlen ⊢
   simp only [Idx.cnt,Idx.cnts] at hcnt hlen
   have p1 : ∀ b : Bool,(paren b ta).length <= ta.length + 2 := fun b => paren_len b ta
   have p2 : ∀ b : Bool,(paren b tb).length <= tb.length + 2 := fun b => paren_len b tb
   have la' := Idx.text_len _ hsh.2.2.1
   have lb' := Idx.text_len _ hsh.2.2.2.1
   rw [hta] at la'
   rw [htb] at lb'
   simp only [Idx.cnt] at la' lb'
   rcases hk with rfl | rfl | rfl
   ·have iha0 : ∀ m,cvl (C u) (.fn (.func 104) [] []) [.agg [.int .i64 ka,.int .i64 na,.str sa,.list ca (Idx.avs la)],.bool false] m = some (.str ta,m) := fun m => iha false m
    have a1 : aStr .add ta [32,43,32] = some (.str (ta ++ [32,43,32])) := aStr_add (by simp; omega)
    have a2 : ∀ b : Bool,aStr .add (ta ++ [32,43,32]) (paren b tb) = some (.str (ta ++ [32,43,32] ++ paren b tb)) := fun b => aStr_add (by have := p2 b; simp; omega)
    by_cases k3 : kb = 3
    ·subst k3
     simp [iha0,ihb,chkLoad,chkNew,isSt,eqRd,AV.beqs_refl,isSum,opT,a1,a2,paren_false]
    ·by_cases k4 : kb = 4
     ·subst k4
      simp [iha0,ihb,chkLoad,chkNew,isSt,eqRd,AV.beqs_refl,isSum,opT,a1,a2,paren_false]
     ·have a3 := a2 false
      simp only [paren_false] at a3
      simp [iha0,ihb,a3,chkLoad,chkNew,isSt,eqRd,AV.beqs_refl,isSum,opT,a1,a2,paren_false,k3,k4,ne_true k3,ne_true k4]
   ·have iha0 : ∀ m,cvl (C u) (.fn (.func 104) [] []) [.agg [.int .i64 ka,.int .i64 na,.str sa,.list ca (Idx.avs la)],.bool false] m = some (.str ta,m) := fun m => iha false m
    have a1 : aStr .add ta [32,45,32] = some (.str (ta ++ [32,45,32])) := aStr_add (by simp; omega)
    have a2 : ∀ b : Bool,aStr .add (ta ++ [32,45,32]) (paren b tb) = some (.str (ta ++ [32,45,32] ++ paren b tb)) := fun b => aStr_add (by have := p2 b; simp; omega)
    by_cases k3 : kb = 3
    ·subst k3
     simp [iha0,ihb,chkLoad,chkNew,isSt,eqRd,AV.beqs_refl,isSum,opT,a1,a2,paren_false]
    ·by_cases k4 : kb = 4
     ·subst k4
      simp [iha0,ihb,chkLoad,chkNew,isSt,eqRd,AV.beqs_refl,isSum,opT,a1,a2,paren_false]
     ·have a3 := a2 false
      simp only [paren_false] at a3
      simp [iha0,ihb,a3,chkLoad,chkNew,isSt,eqRd,AV.beqs_refl,isSum,opT,a1,a2,paren_false,k3,k4,ne_true k3,ne_true k4]
   ·have a1 : ∀ b : Bool,aStr .add (paren b ta) [32,42,32] = some (.str (paren b ta ++ [32,42,32])) := fun b => aStr_add (by have := p1 b; simp; omega)
    have a2 : ∀ b b' : Bool,aStr .add (paren b ta ++ [32,42,32]) (paren b' tb) = some (.str (paren b ta ++ [32,42,32] ++ paren b' tb)) := fun b b' => aStr_add (by have := p1 b; have := p2 b'; simp; omega)
    by_cases k3 : ka = 3
    ·subst k3
     simp [iha,ihb,chkLoad,chkNew,isSt,eqRd,AV.beqs_refl,isSum,opT,a1,a2] <;> congr
    ·by_cases k4 : ka = 4
     ·subst k4
      simp [iha,ihb,chkLoad,chkNew,isSt,eqRd,AV.beqs_refl,isSum,opT,a1,a2] <;> congr
     ·have a3 := a1 false
      have a4 := fun b => a2 false b
      simp only [paren_false] at a3 a4
      simp [iha,ihb,a3,a4,chkLoad,chkNew,isSt,eqRd,AV.beqs_refl,isSum,opT,a1,a2,paren_false,k3,k4,ne_true k3,ne_true k4] <;> congr
 intro b m
 cases b with
 | false => simpa [paren] using hno m
 | true =>
  have hno' := hno { blks := m.blks,touched := [] }
  refine call_runs (g := g104) (by rfl) (by rfl) (by rfl) ?_
  simp only [List.map_cons,List.map_nil,Idx.exp_av _ _ _ hok,exp,g104,c104]
  generalize (Idx.mk k n s c l).text = t at *
  have a1 : aStr .add [40] t = some (.str ([40] ++ t)) := aStr_add (by simp; omega)
  have a2 : aStr .add ([40] ++ t) [41] = some (.str ([40] ++ t ++ [41])) := aStr_add (by simp; omega)
  simp only [List.cons_append,List.nil_append] at a1 a2
  simp only [Idx.av] at hno' ⊢
  simp [hno',a1,a2,paren]
end Go.Abs.Tz
set_option maxRecDepth 100000
set_option maxHeartbeats 8000000
namespace Go.Abs.Tz
open Go.Abs
variable {u : Nat}
attribute [local simp] exec aops astep wantedA aop evO setO setU getE getE_setE lget lget_lset aBin aInt aUn AV.cells newVar padd rd wr asElem single splice adraw ascan Runs gets RV.get tupled frz_int frz_bool frz_str
theorem f104n (x : Idx) (hok : x.Ok) (h : ixR x) (m : Mem) : cvl (C u) (.fn (.func 104) [] []) [.agg x.four,.bool false] m = some (.str x.text,m) := by
 have := f104 (u := u) x hok h.1 (by have := h.2; omega) false m
 rwa [Idx.av_four] at this
theorem f220 (p : Plc) (hok : p.Ok) (h : p.Shp) (m : Mem) : cvl (C u) (.fn (.func 220) [] []) [p.av] m = some (.str p.text,m) := by
 refine call_runs (g := g220) (by rfl) (by rfl) (by rfl) ?_
 simp only [List.map_cons,List.map_nil,Plc.exp_av _ _ _ hok,g220,c220]
 obtain ⟨nm,c,ix⟩ := p
 obtain ⟨h1,h2,h3⟩ := h
 simp only at h1 h2 h3
 match ix,h2,h3,hok with
 | [],_,_,_ => simp [Plc.av,Plc.text]
 | [a],_,h3,hok =>
  have e := fun m => f104n (u := u) a (hok.2.2 a (by simp)).1 (h3 a (by simp)) m
  have hl := ixR_len (h3 a (by simp))
  have h4 := Idx.four_len a
  have htk : a.four.take 4 = a.four := List.take_of_length_le (by omega)
  simp only [Plc.av,Plc.text,List.map_cons,List.map_nil,Idx.av_four]
  generalize a.text = t at *
  have a1 : aStr .add nm [91] = some (.str (nm ++ [91])) := aStr_add (by simp; omega)
  have a2 : aStr .add (nm ++ [91]) t = some (.str (nm ++ [91] ++ t)) := aStr_add (by simp; omega)
  have a3 : aStr .add (nm ++ [91] ++ t) [93] = some (.str (nm ++ [91] ++ t ++ [93])) := aStr_add (by simp; omega)
  simp only [List.append_assoc,List.cons_append,List.nil_append] at a1 a2 a3
  simp [h4,htk,e,chkLoad,isSt,a1,a2,a3]
 | [a,b],_,h3,hok =>
  have ea := fun m => f104n (u := u) a (hok.2.2 a (by simp)).1 (h3 a (by simp)) m
  have eb := fun m => f104n (u := u) b (hok.2.2 b (by simp)).1 (h3 b (by simp)) m
  have hla := ixR_len (h3 a (by simp))
  have hlb := ixR_len (h3 b (by simp))
  have h4 := Idx.four_len a
  have htk : a.four.take 4 = a.four := List.take_of_length_le (by omega)
  have h4' := Idx.four_len b
  have htk' : b.four.take 4 = b.four := List.take_of_length_le (by omega)
  simp only [Plc.av,Plc.text,List.map_cons,List.map_nil,Idx.av_four]
  generalize a.text = t at *
  generalize b.text = s at *
  have a1 : aStr .add nm [91] = some (.str (nm ++ [91])) := aStr_add (by simp; omega)
  have a2 : aStr .add (nm ++ [91]) t = some (.str (nm ++ [91] ++ t)) := aStr_add (by simp; omega)
  have a3 : aStr .add (nm ++ [91] ++ t) [32,58,32] = some (.str (nm ++ [91] ++ t ++ [32,58,32])) := aStr_add (by simp; omega)
  have a4 : aStr .add (nm ++ [91] ++ t ++ [32,58,32]) s = some (.str (nm ++ [91] ++ t ++ [32,58,32] ++ s)) := aStr_add (by simp; omega)
  have a5 : aStr .add (nm ++ [91] ++ t ++ [32,58,32] ++ s) [93] = some (.str (nm ++ [91] ++ t ++ [32,58,32] ++ s ++ [93])) := aStr_add (by simp; omega)
  simp only [List.append_assoc,List.cons_append,List.nil_append] at a1 a2 a3 a4 a5
  simp [h4,htk,h4',htk',ea,eb,chkLoad,isSt,a1,a2,a3,a4,a5]
 | _ :: _ :: _ :: _,h2,_,_ => simp at h2
theorem commas_snoc (l : List (List Nat)) (x : List Nat) (h : l ≠ []) : commas (l ++ [x]) = commas l ++ [44,32] ++ x := by
 induction l with
 | nil => exact absurd rfl h
 | cons a l ih =>
  cases l with
  | nil => simp [commas]
  | cons b l =>
   have := ih (by simp)
   simp only [List.cons_append,commas] at this ⊢
   rw [this]
   simp
theorem f168 (c : Cap) (hc : okCap c) (pl : List Plc) (hpl : ∀ p ∈ pl,p.Ok) (h : plR pl) (m : Mem) : cvl (C u) (.fn (.func 168) [] []) [.list c (pl.map Plc.av)] m = some (.str (plcsT pl),m) := by
 refine call_runs (g := g168) (by rfl) (by rfl) (by rfl) ?_
 simp only [List.map_cons,List.map_nil,plc_exp hc hpl,g168,c168]
 have h4 := h.1
 let K : St -> Prop := fun st => getE st.env 0 = .list c (pl.map Plc.av) /\ st.mem = { blks := m.blks,touched := [] }
 refine Runs.seq' (M := K) (by simp [K]) fun s1 ⟨h1,h2⟩ => ?_
 refine Runs.seq' (M := fun st => K st /\ getE st.env 3 = .str []) (by simp [K,h1,h2]) fun s1 ⟨⟨h1,h2⟩,h3⟩ => ?_
 refine Runs.seq (M := fun st => K st /\ getE st.env 3 = .str (plcsT pl)) ?_ fun s2 ⟨⟨h1,h2⟩,h3⟩ => by simp [h2,h3]
 let I : Nat -> St -> Prop := fun i st => K st /\ getE st.env 4 = .int .i64 i /\ getE st.env 3 = .str (plcsT (pl.take i))
 refine Runs.seq' (M := fun st => K st /\ getE st.env 4 = .int .i64 0 /\ getE st.env 3 = .str []) (by simp [K,h1,h2,h3]) fun s4 ⟨a1,a2,a3⟩ => ?_
 refine Runs.block (Runs.loop (I := I) pl.length ⟨a1,a2,a3⟩ fun i st hi hst => ?_)
 obtain ⟨⟨h1,h2⟩,q1,q2⟩ := hst
 rcases Nat.lt_or_ge i pl.length with hlt | hge
 ·left
  refine ⟨hlt,?_⟩
  have hw : IntKind.wrap .i64 ((i : Int) + 1) = (i : Int) + 1 := wrap_i64 (by omega) (by omega)
  have hm : pl[i] ∈ pl := List.getElem_mem hlt
  have e := fun m => f220 (u := u) pl[i] (hpl _ hm) (h.2 _ hm) m
  have hl := Plc.text_len _ (h.2 _ hm)
  have hpre : (plcsT (pl.take i)).length <= 1008 := plcsT_len ⟨by rw [List.length_take]; omega,fun p hp => h.2 p (List.mem_of_mem_take hp)⟩
  have hs : plcsT (pl.take (i + 1)) = if i = 0 then pl[i].text else plcsT (pl.take i) ++ [44,32] ++ pl[i].text := by
   simp only [plcsT,List.take_succ_eq_append_getElem hlt,List.map_append,List.map_cons,List.map_nil]
   split
   ·rename_i h0; subst h0; rfl
   ·rename_i h0
    rw [commas_snoc]
    intro he
    have := congrArg List.length he
    rw [List.length_map,List.length_take,List.length_nil] at this
    omega
  simp only [Plc.av] at e
  by_cases h0 : i = 0
  ·subst h0
   have ha : aStr .add [] pl[0].text = some (.str pl[0].text) := by rw [aStr_add (by simp; omega)]; simp
   have hp0 : plcsT (pl.take 0) = [] := rfl
   rw [hp0] at q2
   simp at hs
   have hw1 : IntKind.wrap .i64 1 = 1 := by decide
   simp [I,K,l168_0,h1,h2,q1,q2,hlt,Plc.av,e,ha,hs,hw1]
  ·have hi0 : (0 : Int) < (i : Int) := by omega
   have hi0' : 0 < i := by omega
   rw [if_neg h0] at hs
   have a1 : aStr .add (plcsT (pl.take i)) [44,32] = some (.str (plcsT (pl.take i) ++ [44,32])) := aStr_add (by simp; omega)
   have a2 : aStr .add (plcsT (pl.take i) ++ [44,32]) pl[i].text = some (.str (plcsT (pl.take i) ++ [44,32] ++ pl[i].text)) := aStr_add (by simp; omega)
   simp [I,K,l168_0,h1,h2,q1,q2,hlt,Plc.av,e,hi0,hi0',a1,a2,hs,hw]
 ·right
  have : i = pl.length := by omega
  subst this
  rw [List.take_length] at q2
  simp [K,l168_0,h1,h2,q1,q2]
theorem gate_word {g : Int} (h : 1 <= g /\ g <= 12) (m : Mem) : cvl (C u) (.fn (.func 157) [] []) [.int .i64 g] m = some (.str (gateW.getD (g - 1).toNat []),m) := by
 have := f157 (u := u) g.toNat (by omega) (by omega) m
 have h1 : ((g.toNat : Nat) : Int) = g := by omega
 have h2 : g.toNat - 1 = (g - 1).toNat := by omega
 rwa [h1,h2] at this
theorem linesT_append (l : List Stp) (x : Stp) (b : List Nat) : linesT (l ++ [x]) b = linesT l b ++ lineT x b := by
 induction l with
 | nil => simp [linesT]
 | cons a l ih => simp only [List.cons_append,linesT,ih,List.append_assoc]
theorem cnts_take_le (l : List Stp) (i : Nat) : Stp.cnts (l.take i) <= Stp.cnts l := by
 induction l generalizing i with
 | nil => simp
 | cons a l ih => cases i with
  | zero => simp [Stp.cnts]
  | succ i => have := ih i; simp only [List.take_succ_cons,Stp.cnts]; omega
theorem deeps_take_le (l : List Stp) (i : Nat) : Stp.deeps (l.take i) <= Stp.deeps l := by
 induction l generalizing i with
 | nil => simp
 | cons a l ih => cases i with
  | zero => simp [Stp.deeps]
  | succ i => have := ih i; simp only [List.take_succ_cons,Stp.deeps]; omega
theorem rs_take {l : List Stp} (h : Stp.Rs l) (i : Nat) : Stp.Rs (l.take i) := by
 induction l generalizing i with
 | nil => simpa using h
 | cons a l ih => cases i with
  | zero => trivial
  | succ i => exact ⟨h.1,ih h.2 i⟩
theorem deep_mem {l : List Stp} {x : Stp} (h : x ∈ l) : x.deep <= Stp.deeps l := by
 induction l with
 | nil => cases h
 | cons a l ih =>
  simp only [Stp.deeps]
  rcases List.mem_cons.1 h with rfl | h
  ·omega
  ·have := ih h; omega
theorem cnt_mem_le {l : List Stp} {x : Stp} (h : x ∈ l) : x.cnt <= Stp.cnts l := by
 induction l with
 | nil => cases h
 | cons a l ih =>
  simp only [Stp.cnts]
  rcases List.mem_cons.1 h with rfl | h
  ·omega
  ·have := ih h; omega
theorem lines_len (l : List Stp) (b : List Nat) (h : Stp.Rs l) (hb : b.length + 2 * Stp.deeps l <= 100) (hc : Stp.cnts l <= 1000) : (linesT l b).length <= 1500000 := by
 have h1 := linesT_len 100 l b h hb
 have h2 : Stp.cnts l * (3 * 100 + 1200) <= 1000 * (3 * 100 + 1200) := Nat.mul_le_mul_right _ hc
 omega
end Go.Abs.Tz
set_option maxRecDepth 100000
set_option maxHeartbeats 8000000
namespace Go.Abs.Tz
open Go.Abs
variable {u : Nat}
attribute [local simp] exec aops astep wantedA aop evO setO setU getE getE_setE lget lget_lset aBin aInt aUn AV.cells newVar padd rd wr asElem single splice adraw ascan Runs gets RV.get tupled frz_int frz_bool frz_str
theorem headR_kinds {x : Stp} (h : x.R) : headR x.kind x.gate x.name x.pl x.size x.to /\ (hasBody x.kind = true -> Stp.Rs x.body) /\ (hasElse x.kind = true -> Stp.Rs x.els) := by
 cases x; exact h
theorem lineT_eq (x : Stp) (b : List Nat) : lineT x b = b ++ headT x.kind x.gate x.name x.pl x.size x.to ++
   (if hasBody x.kind = false then [59,10]
    else [32,123,10] ++ linesT x.body (b ++ bl2) ++
    (if hasElse x.kind = true /\ ¬ (x.kind = 7 /\ x.els.length = 0) then b ++ [125,32] ++ betweenT x.kind ++ [32,123,10] ++ linesT x.els (b ++ bl2) else []) ++ b ++ [125,10]) := by cases x; rfl
theorem deep_eq (x : Stp) : x.deep = 1 + max (if hasBody x.kind then Stp.deeps x.body else 0) (if hasElse x.kind then Stp.deeps x.els else 0) := by cases x; rfl
theorem cnt_eq (x : Stp) : x.cnt = 1 + (if hasBody x.kind then Stp.cnts x.body else 0) + (if hasElse x.kind then Stp.cnts x.els else 0) := by cases x; rfl
def x0_ok (x : Stp) : Prop := x.size.Ok /\ x.to.Ok /\ okCap x.cp /\ ∀ p ∈ x.pl,p.Ok
theorem x0_mk {x : Stp} (hx : x.Ok) : x0_ok x := by
 obtain ⟨k,g,nm,cp,pl,size,to,cb,body,ce,els⟩ := x
 simp only [Stp.Ok] at hx
 exact ⟨hx.2.2.2.1.1,hx.2.2.2.2.1.1,hx.2.1,hx.2.2.1⟩
theorem f102 (l : List Stp) : ∀ (c : Cap),okCap c -> Stp.Oks l -> Stp.Rs l -> ∀ b : List Nat,b.length + 2 * Stp.deeps l <= 100 -> Stp.cnts l <= 1000 -> Stp.wts l < 1000000000 -> ∀ m,cvl (C u) (.fn (.func 102) [] []) [.list c (Stp.avs l),.str b] m = some (.str (linesT l b),m) := by
 refine Stp.lists (P := fun l => ∀ (c : Cap),okCap c -> Stp.Oks l -> Stp.Rs l -> ∀ b : List Nat,b.length + 2 * Stp.deeps l <= 100 -> Stp.cnts l <= 1000 -> Stp.wts l < 1000000000 -> ∀ m,cvl (C u) (.fn (.func 102) [] []) [.list c (Stp.avs l),.str b] m = some (.str (linesT l b),m)) (fun l ih c hc hok hR b hb hcn hw m => ?_) l
 refine call_runs (g := g102) (by rfl) (by rfl) (by rfl) ?_
 simp only [List.map_cons,List.map_nil,exp_stps hc hok]
 simp only [exp,g102,c102]
 have hll := Stp.wts_len l
 let K : St -> Prop := fun st => getE st.env 0 = .list c (Stp.avs l) /\ getE st.env 1 = .str b /\ st.mem = { blks := m.blks,touched := [] }
 refine Runs.seq' (M := K) (by simp [K]) fun s1 ⟨h1,h2,h3⟩ => ?_
 refine Runs.seq' (M := fun st => K st /\ getE st.env 5 = .str []) (by simp [K,h1,h2,h3]) fun s1 ⟨⟨h1,h2,h3⟩,h4⟩ => ?_
 refine Runs.seq (M := fun st => K st /\ getE st.env 5 = .str (linesT l b)) ?_ fun s2 ⟨⟨h1,h2,h3⟩,h4⟩ => by simp [h3,h4]
 let J : Nat -> St -> Prop := fun i st => K st /\ getE st.env 6 = .int .i64 i
 let I : Nat -> St -> Prop := fun i st => J i st /\ getE st.env 5 = .str (linesT (l.take i) b)
 refine Runs.seq' (M := fun st => J 0 st /\ getE st.env 5 = .str []) (by simp [J,K,h1,h2,h3,h4]) fun s4 ⟨a1,a2⟩ => ?_
 refine Runs.block (Runs.upto (I := I) l.length ⟨a1,a2⟩ (fun i st hlt hst => ?_) (fun st hst => ?_))
 ·obtain ⟨⟨⟨h1,h2,h3⟩,q1⟩,q2⟩ := hst
  have hwi : IntKind.wrap .i64 ((i : Int) + 1) = (i : Int) + 1 := wrap_i64 (by omega) (by omega)
  have hg := stp_get l i hlt
  have hm : l[i] ∈ l := List.getElem_mem hlt
  have hoki := Stp.oks_mem hok _ hm
  have hRi := Stp.rs_mem hR _ hm
  obtain ⟨ih1,ih2⟩ := ih _ hm
  have hwm := Stp.wt_mem hm
  have hob := Stp.oks_body hoki
  have hoc := Stp.caps_ok hoki
  have hge := Stp.wt_ge l[i]
  have hdm := deep_mem hm
  have hcm := cnt_mem_le hm
  have hsn : linesT (l.take (i + 1)) b = linesT (l.take i) b ++ lineT l[i] b := by rw [List.take_succ_eq_append_getElem hlt,linesT_append]
  have hpre : (linesT (l.take i) b).length <= 1500000 := lines_len _ _ (rs_take hR i) (by have := deeps_take_le l i; omega) (by have := cnts_take_le l i; omega)
  generalize linesT (l.take i) b = acc at *
  generalize l[i] = y at *
  have k0 := cell0 y
  have kt := cells14 y
  have kl := Stp.cells_len y
  simp only [Stp.av] at hg
  let J2 : St -> Prop := fun st => J i st /\ ∃ v,getE st.env 7 = .lptr 7 v 0 /\ lget st.loc 7 = some (v,.cells y.cells)
  refine Runs.seq' (M := fun st => J i st /\ getE st.env 5 = .str acc) (by simp [J,K,h1,h2,h3,q1,q2,hlt,stps_len]) fun s5 ⟨⟨⟨h1,h2,h3⟩,q1⟩,q2⟩ => ?_
  refine Runs.seq (M := fun st => J i st /\ getE st.env 5 = .str (acc ++ lineT y b)) ?_ fun s6 ⟨⟨⟨h1,h2,h3⟩,q1⟩,q2⟩ => by
   simp [I,J,K,h1,h2,h3,q1,q2,hwi,hsn]
  refine Runs.block ?_
  refine Runs.seq' (M := fun st => J2 st /\ getE st.env 5 = .str acc) (by simp [J2,J,K,h1,h2,h3,q1,q2,hlt,hg,kl,kt,stps_len]) fun s5 ⟨⟨⟨⟨h1,h2,h3⟩,q1⟩,v,q3,q4⟩,q2⟩ => ?_
  have ha0 : aStr .add acc b = some (.str (acc ++ b)) := aStr_add (by omega)
  refine Runs.seq' (M := fun st => J2 st /\ getE st.env 5 = .str (acc ++ b)) (by simp [J2,J,K,h1,h2,h3,q1,q2,q3,q4,ha0]) fun s5 ⟨⟨⟨⟨h1,h2,h3⟩,q1⟩,v,q3,q4⟩,q2⟩ => ?_
  have hacc : (acc ++ b).length <= 1500100 := by simp; omega
  obtain ⟨⟨hk0,hg1,hnm1,hpl1,hsz1,hto1⟩,hRb,hRe⟩ := headR_kinds hRi
  have hst : x0_ok y := x0_mk hoki
  obtain ⟨o1,o2,o3,o4⟩ := hst
  have hdeq := deep_eq y
  have hceq := cnt_eq y
  have eb : hasBody y.kind = true -> ∀ m,cvl (C u) (.fn (.func 102) [] []) [.list y.cb (Stp.avs y.body),.str (b ++ [32,32])] m = some (.str (linesT y.body (b ++ [32,32])),m) := fun hh m => by
   rw [hh] at hdeq hceq
   simp only [if_true] at hdeq hceq
   exact ih1 y.cb hoc.1 hob.1 (hRb hh) (b ++ [32,32]) (by simp; omega) (by omega) (by omega) m
  have ee : hasElse y.kind = true -> ∀ m,cvl (C u) (.fn (.func 102) [] []) [.list y.ce (Stp.avs y.els),.str (b ++ [32,32])] m = some (.str (linesT y.els (b ++ [32,32])),m) := fun hh m => by
   rw [hh] at hdeq hceq
   simp only [if_true] at hdeq hceq
   exact ih2 y.ce hoc.2 hob.2 (hRe hh) (b ++ [32,32]) (by simp; omega) (by omega) (by omega) m
  have lb : hasBody y.kind = true -> (linesT y.body (b ++ [32,32])).length <= 1500000 := fun hh => by
   rw [hh] at hdeq hceq
   simp only [if_true] at hdeq hceq
   exact lines_len _ _ (hRb hh) (by simp; omega) (by omega)
  have le : hasElse y.kind = true -> (linesT y.els (b ++ [32,32])).length <= 1500000 := fun hh => by
   rw [hh] at hdeq hceq
   simp only [if_true] at hdeq hceq
   exact lines_len _ _ (hRe hh) (by simp; omega) (by omega)
  have e157 := fun h m => gate_word (u := u) (g := y.gate) h m
  have e168 := fun h m => f168 (u := u) y.cp o3 y.pl o4 h m
  have lp := fun h : plR y.pl => plcsT_len h
  have es := fun h m => f104n (u := u) y.size o1 h m
  have et := fun h m => f104n (u := u) y.to o2 h m
  have ls := fun h : ixR y.size => ixR_len h
  have lt := fun h : ixR y.to => ixR_len h
  have g4 := gateW_len (y.gate - 1).toNat
  have k1 := cell1 y
  have k2 := cell2 y
  have k3 := cell3 y
  have k4 := cell4 y
  have k8 := cell8 y
  have k12 := cell12 y
  have k13 := cell13 y
  have hbl : b.length <= 100 := by omega
  generalize hv : acc ++ lineT y b = v
  rw [lineT_eq,List.append_assoc b,<- List.append_assoc acc] at hv
  simp only [bl2,headT] at hv
  generalize acc ++ b = A at *
  generalize linesT y.body (b ++ [32,32]) = tb at *
  generalize linesT y.els (b ++ [32,32]) = te at *
  generalize y.size.text = ts at *
  generalize y.to.text = tt at *
  generalize plcsT y.pl = tp at *
  generalize gateW.getD (y.gate - 1).toNat [] = gw at *
  clear hdeq hceq hsn hpre ha0 ih1 ih2 hdm hcm hwi hwm hob hge hll hw hcn hb
  have hkk : y.kind = 1 \/ y.kind = 2 \/ y.kind = 3 \/ y.kind = 4 \/ y.kind = 5 \/ y.kind = 6 \/ y.kind = 7 \/ y.kind = 8 \/ y.kind = 9 \/ y.kind = 10 \/ y.kind = 11 := by omega
  rcases hkk with hk | hk | hk | hk | hk | hk | hk | hk | hk | hk | hk
  ·rw [hk] at k0
   have e1 := e157 (hg1 hk)
   have e2 := e168 (hpl1 (by omega))
   have l2 := lp (hpl1 (by omega))
   simp [hk,headT,hasBody,hasElse,betweenT] at hv
   subst hv
   simp (disch := (first | omega | (simp only [List.length_append,List.length_cons,List.length_nil]; omega))) [J,K,h1,h2,h3,q1,q2,q3,q4,kl,k0,aStr_add,chkLoad,isSt,k1,k3,e1,e2]
  ·rw [hk] at k0
   have hnl := hnm1 (by omega)
   have e1 := es (hsz1 (by omega))
   have l1 := ls (hsz1 (by omega))
   simp [hk,headT,hasBody,hasElse,betweenT] at hv
   subst hv
   simp (disch := (first | omega | (simp only [List.length_append,List.length_cons,List.length_nil]; omega))) [J,K,h1,h2,h3,q1,q2,q3,q4,kl,k0,aStr_add,chkLoad,isSt,k2,k4,e1]
  ·rw [hk] at k0
   have hnl := hnm1 (by omega)
   simp [hk,headT,hasBody,hasElse,betweenT] at hv
   subst hv
   simp (disch := (first | omega | (simp only [List.length_append,List.length_cons,List.length_nil]; omega))) [J,K,h1,h2,h3,q1,q2,q3,q4,kl,k0,aStr_add,chkLoad,isSt,k2]
  ·rw [hk] at k0
   have hnl := hnm1 (by omega)
   have e1 := es (hsz1 (by omega))
   have l1 := ls (hsz1 (by omega))
   have hb' : hasBody y.kind = true := by simp [hasBody,hk]
   have e2 := eb hb'
   have l2 := lb hb'
   simp [hk,headT,hasBody,hasElse,betweenT] at hv
   subst hv
   simp (disch := (first | omega | (simp only [List.length_append,List.length_cons,List.length_nil]; omega))) [J,K,h1,h2,h3,q1,q2,q3,q4,kl,k0,aStr_add,chkLoad,isSt,k2,k4,k12,e1,e2]
  ·rw [hk] at k0
   have hnl := hnm1 (by omega)
   have e2 := e168 (hpl1 (by omega))
   have l2 := lp (hpl1 (by omega))
   simp [hk,headT,hasBody,hasElse,betweenT] at hv
   subst hv
   simp (disch := (first | omega | (simp only [List.length_append,List.length_cons,List.length_nil]; omega))) [J,K,h1,h2,h3,q1,q2,q3,q4,kl,k0,aStr_add,chkLoad,isSt,k2,k3,e2]
  ·rw [hk] at k0
   have e2 := e168 (hpl1 (by omega))
   have l2 := lp (hpl1 (by omega))
   simp [hk,headT,hasBody,hasElse,betweenT] at hv
   subst hv
   simp (disch := (first | omega | (simp only [List.length_append,List.length_cons,List.length_nil]; omega))) [J,K,h1,h2,h3,q1,q2,q3,q4,kl,k0,aStr_add,chkLoad,isSt,k3,e2]
  ·rw [hk] at k0
   have hnl := hnm1 (by omega)
   have hb' : hasBody y.kind = true := by simp [hasBody,hk]
   have e2 := eb hb'
   have l2 := lb hb'
   have he' : hasElse y.kind = true := by simp [hasElse,hk]
   have e3 := ee he'
   have l3 := le he'
   by_cases hz : y.els = []
   ·simp [hk,headT,hasBody,hasElse,betweenT,hz] at hv
    subst hv
    simp only [hz,Stp.avs] at k13
    simp (disch := (first | omega | (simp only [List.length_append,List.length_cons,List.length_nil]; omega))) [J,K,h1,h2,h3,q1,q2,q3,q4,kl,k0,aStr_add,chkLoad,isSt,k2,k12,k13,e2]
   ·have hzl : (0 : Int) < (y.els.length : Int) := by have := List.length_pos_iff.2 hz; omega
    have hzl' : 0 < y.els.length := List.length_pos_iff.2 hz
    simp [hk,headT,hasBody,hasElse,betweenT,hz] at hv
    subst hv
    simp (disch := (first | omega | (simp only [List.length_append,List.length_cons,List.length_nil]; omega))) [J,K,h1,h2,h3,q1,q2,q3,q4,kl,k0,aStr_add,chkLoad,isSt,k2,k12,k13,e2,e3,stps_len,hzl,hzl',hz]
  ·rw [hk] at k0
   have hnl := hnm1 (by omega)
   have e1 := es (hsz1 (by omega))
   have l1 := ls (hsz1 (by omega))
   have e3 := et (hto1 (by omega))
   have l3 := lt (hto1 (by omega))
   have hb' : hasBody y.kind = true := by simp [hasBody,hk]
   have e2 := eb hb'
   have l2 := lb hb'
   simp [hk,headT,hasBody,hasElse,betweenT] at hv
   subst hv
   simp (disch := (first | omega | (simp only [List.length_append,List.length_cons,List.length_nil]; omega))) [J,K,h1,h2,h3,q1,q2,q3,q4,kl,k0,aStr_add,chkLoad,isSt,k2,k4,k8,k12,e1,e2,e3]
  ·rw [hk] at k0
   have hnl := hnm1 (by omega)
   have e2 := e168 (hpl1 (by omega))
   have l2 := lp (hpl1 (by omega))
   simp [hk,headT,hasBody,hasElse,betweenT] at hv
   subst hv
   simp (disch := (first | omega | (simp only [List.length_append,List.length_cons,List.length_nil]; omega))) [J,K,h1,h2,h3,q1,q2,q3,q4,kl,k0,aStr_add,chkLoad,isSt,k2,k3,e2]
  ·rw [hk] at k0
   have hb' : hasBody y.kind = true := by simp [hasBody,hk]
   have e2 := eb hb'
   have l2 := lb hb'
   simp [hk,headT,hasBody,hasElse,betweenT] at hv
   subst hv
   simp (disch := (first | omega | (simp only [List.length_append,List.length_cons,List.length_nil]; omega))) [J,K,h1,h2,h3,q1,q2,q3,q4,kl,k0,aStr_add,chkLoad,isSt,k12,e2]
  ·rw [hk] at k0
   have hb' : hasBody y.kind = true := by simp [hasBody,hk]
   have e2 := eb hb'
   have l2 := lb hb'
   have he' : hasElse y.kind = true := by simp [hasElse,hk]
   have e3 := ee he'
   have l3 := le he'
   simp [hk,headT,hasBody,hasElse,betweenT] at hv
   subst hv
   simp (disch := (first | omega | (simp only [List.length_append,List.length_cons,List.length_nil]; omega))) [J,K,h1,h2,h3,q1,q2,q3,q4,kl,k0,aStr_add,chkLoad,isSt,k12,k13,e2,e3]
 ·obtain ⟨⟨⟨h1,h2,h3⟩,q1⟩,q2⟩ := hst
  rw [List.take_length] at q2
  simp [K,l102_0,h1,h2,h3,q1,q2,stps_len]
end Go.Abs.Tz
