/- A text of this proof. -/
import Derived.Test.YtiigojkfojnedaaGreatDoorPHx
set_option linter.unusedVariables false
set_option linter.unusedSimpArgs false
set_option maxRecDepth 100000
set_option maxHeartbeats 8000000
namespace Go.Abs.Tz
open Go.Abs
variable {u : Nat}
attribute [local simp] exec aops astep wantedA aop evO setO setU getE getE_setE lget lget_lset aBin aInt aUn AV.cells newVar padd rd wr asElem single splice adraw ascan Runs gets RV.get tupled frz_int frz_bool frz_str
theorem f171 {id : Nat} (x : Stp) (m : Mem) (hid : m.blks[id]? = some (.cells x.cells)) (hok : x.size.Ok) (hs : ixR x.size) (hn : x.name.length <= 8) :
  cvl (C u) (.fn (.func 171) [] [.gptr id 0]) [] m = some (.str (x.name ++ [91] ++ x.size.text ++ [93]),m) := by
 have hlt := get_lt hid
 refine clo_runs (g := g171) (by rfl) (by rfl) (by rfl) ?_
 simp only [List.nil_append,List.cons_append,List.map_cons,List.map_nil,exp,hlt,if_true,g171,c171]
 have e := fun m => f114n (u := u) x.size hok hs m
 have hl := ixR_len hs
 have k2 := cell2 x
 have k4 := cell4 x
 have kl := Stp.cells_len x
 generalize x.size.text = t at *
 have a1 : aStr .add x.name [91] = some (.str (x.name ++ [91])) := aStr_add (by simp; omega)
 have a2 : aStr .add (x.name ++ [91]) t = some (.str (x.name ++ [91] ++ t)) := aStr_add (by simp; omega)
 have a3 : aStr .add (x.name ++ [91] ++ t) [93] = some (.str (x.name ++ [91] ++ t ++ [93])) := aStr_add (by simp; omega)
 simp only [List.append_assoc,List.cons_append,List.nil_append] at a1 a2 a3
 simp [hid,k2,k4,kl,e,chkLoad,isSt,eqRd,AV.beqs,AV.beq,a1,a2,a3]
theorem gate_get {g : Int} (h : 1 <= g /\ g <= 12) : ∃ w,(gateW.map AV.str)[(g - 1).toNat]? = some (.str w) /\ gateW.getD (g - 1).toNat [] = w /\ w.length <= 4 := by
 obtain ⟨k,hk⟩ : ∃ k : Nat,(g - 1).toNat = k := ⟨_,rfl⟩
 rw [hk]
 have hk' : k < 12 := by omega
 match k,hk' with
 | 0,_ | 1,_ | 2,_ | 3,_ | 4,_ | 5,_ | 6,_ | 7,_ | 8,_ | 9,_ | 10,_ | 11,_ => exact ⟨_,rfl,rfl,by decide⟩
section
variable {B : List Blk} {x : Stp} {s1 : St}
variable (h1 : getE s1.env 1 = .gptr B.length 0) (h2 : getE s1.env 3 = .fn (.func 171) [] [.gptr B.length 0]) (h3 : s1.mem = { blks := B ++ [.cells x.cells],touched := [] }) (hb : (B ++ [.cells x.cells])[B.length]? = some (.cells x.cells))
 (e171 : ixR x.size -> x.name.length <= 8 -> ∀ T,cvl (C u) (.fn (.func 171) [] [.gptr B.length 0]) [] { blks := B ++ [.cells x.cells],touched := T } = some (.str (x.name ++ [91] ++ x.size.text ++ [93]),{ blks := B ++ [.cells x.cells],touched := T }))
 (e172 : plR x.pl -> ∀ m,cvl (C u) (.fn (.func 172) [] []) [.list x.cp (x.pl.map Plc.av)] m = some (.str (plcsT x.pl),m))
 (es : ixR x.size -> ∀ m,cvl (C u) (.fn (.func 114) [] []) [.agg x.size.four] m = some (.str x.size.text,m))
 (et : ixR x.to -> ∀ m,cvl (C u) (.fn (.func 114) [] []) [.agg x.to.four] m = some (.str x.to.text,m))
 (hR : headR x.kind x.gate x.name x.pl x.size x.to)
 (k0 : x.cells.take 1 = [.int .i64 x.kind]) (k1 : x.cells.tail.take 1 = [.int .i64 x.gate]) (k2 : (x.cells.drop 2).take 1 = [.str x.name]) (k3 : (x.cells.drop 3).take 1 = [.list x.cp (x.pl.map Plc.av)]) (k4 : (x.cells.drop 4).take 4 = x.size.four) (k8 : (x.cells.drop 8).take 4 = x.to.four) (kl : x.cells.length = 14)
include h1 h2 h3 hb e171 e172 es et hR k0 k1 k2 k3 k4 k8 kl
theorem s107_1 (hk : x.kind = 1) : Runs (C u).gl (cvl (C u)) c107.snd.snd s1 (End g107 B (.str (headT x.kind x.gate x.name x.pl x.size x.to))) := by
 have uu := And.intro h1 (And.intro h2 (And.intro h3 (And.intro hb (And.intro e171 (And.intro e172 (And.intro es (And.intro et (And.intro hR (And.intro k0 (And.intro k1 (And.intro k2 (And.intro k3 (And.intro k4 (And.intro k8 kl))))))))))))))
 clear uu
 obtain ⟨hk0,hg,hn,hp,hz,ht⟩ := hR
 obtain ⟨v,hv⟩ : ∃ v,v = headT x.kind x.gate x.name x.pl x.size x.to := ⟨_,rfl⟩
 rw [<- hv]
 simp only [headT] at hv
 rw [hk] at k0
 have e1 := e172 (hp (by omega))
 have l1 := plcsT_len (hp (by omega))
 obtain ⟨gw,w1,w2,w3⟩ := gate_get (hg hk)
 have hgg := hg hk
 have hws : IntKind.wrap .i64 (x.gate - 1) = x.gate - 1 := wrap_i64 (by omega) (by omega)
 have hg0 : 0 <= x.gate - 1 /\ x.gate - 1 < 12 := by omega
 have hgl : (gateW.map AV.str).length = 12 := rfl
 have hgc : (C u).gl 0 = .ref [.list .any (gateW.map AV.str)] := gl0
 rw [w2] at hv
 generalize gateW.map AV.str = GW at *
 generalize plcsT x.pl = tp at *
 have a1 : aStr .add (gw) ([32]) = some (.str (gw ++ ([32]))) := aStr_add (by simp; omega)
 have a2 : aStr .add (gw ++ ([32])) (tp) = some (.str (gw ++ ([32]) ++ (tp))) := aStr_add (by simp; omega)
 simp only [List.append_assoc,List.cons_append,List.nil_append] at a1 a2
 have hi : (x.gate - 1).toNat < GW.length := by rw [hgl]; omega
 have w1' : GW[(x.gate - 1).toNat] = .str gw := by
  rw [List.getElem?_eq_getElem hi] at w1
  simpa using w1
 have hto : (x.gate - 1).toNat = x.gate.toNat - 1 := by omega
 have hq1 : 1 <= x.gate := hgg.1
 have hq2 : x.gate - 1 < 12 := by omega
 have hi2 : x.gate.toNat - 1 < GW.length := by omega
 have w12 : GW[x.gate.toNat - 1] = .str gw := by
  rw [hto,List.getElem?_eq_getElem hi2] at w1
  simpa using w1
 have hi3 : x.gate.toNat - 1 < 12 := by omega
 simp [hk] at hv
 subst hv
 simp [c107,AC.snd,End,g107,h1,h2,h3,hb,kl,k0,chkLoad,isSt,eqRd,AV.beqs,AV.beq,AV.beqs_refl,k1,k3,e1,hgc,hgl,hws,hq1,hq2,hi3,w12,a1,a2]
theorem s107_2 (hk : x.kind = 2) : Runs (C u).gl (cvl (C u)) c107.snd.snd s1 (End g107 B (.str (headT x.kind x.gate x.name x.pl x.size x.to))) := by
 have uu := And.intro h1 (And.intro h2 (And.intro h3 (And.intro hb (And.intro e171 (And.intro e172 (And.intro es (And.intro et (And.intro hR (And.intro k0 (And.intro k1 (And.intro k2 (And.intro k3 (And.intro k4 (And.intro k8 kl))))))))))))))
 clear uu
 obtain ⟨hk0,hg,hn,hp,hz,ht⟩ := hR
 obtain ⟨v,hv⟩ : ∃ v,v = headT x.kind x.gate x.name x.pl x.size x.to := ⟨_,rfl⟩
 rw [<- hv]
 simp only [headT] at hv
 rw [hk] at k0
 have e1 := e171 (hz (by omega)) (hn (by omega))
 have l1 := ixR_len (hz (by omega))
 have l2 := hn (by omega)
 generalize x.size.text = ts at *
 have a1 : aStr .add ([116,97,107,101,32]) (x.name ++ [91] ++ ts ++ [93]) = some (.str ([116,97,107,101,32] ++ (x.name ++ [91] ++ ts ++ [93]))) := aStr_add (by simp; omega)
 simp only [List.append_assoc,List.cons_append,List.nil_append] at a1
 simp only [List.append_assoc,List.cons_append,List.nil_append] at e1
 simp [hk] at hv
 subst hv
 simp [c107,AC.snd,End,g107,h1,h2,h3,hb,kl,k0,chkLoad,isSt,eqRd,AV.beqs,AV.beq,AV.beqs_refl,e1,a1]
theorem s107_4 (hk : x.kind = 4) : Runs (C u).gl (cvl (C u)) c107.snd.snd s1 (End g107 B (.str (headT x.kind x.gate x.name x.pl x.size x.to))) := by
 have uu := And.intro h1 (And.intro h2 (And.intro h3 (And.intro hb (And.intro e171 (And.intro e172 (And.intro es (And.intro et (And.intro hR (And.intro k0 (And.intro k1 (And.intro k2 (And.intro k3 (And.intro k4 (And.intro k8 kl))))))))))))))
 clear uu
 obtain ⟨hk0,hg,hn,hp,hz,ht⟩ := hR
 obtain ⟨v,hv⟩ : ∃ v,v = headT x.kind x.gate x.name x.pl x.size x.to := ⟨_,rfl⟩
 rw [<- hv]
 simp only [headT] at hv
 rw [hk] at k0
 have e1 := e171 (hz (by omega)) (hn (by omega))
 have l1 := ixR_len (hz (by omega))
 have l2 := hn (by omega)
 generalize x.size.text = ts at *
 have a1 : aStr .add ([98,111,114,114,111,119,32]) (x.name ++ [91] ++ ts ++ [93]) = some (.str ([98,111,114,114,111,119,32] ++ (x.name ++ [91] ++ ts ++ [93]))) := aStr_add (by simp; omega)
 simp only [List.append_assoc,List.cons_append,List.nil_append] at a1
 simp only [List.append_assoc,List.cons_append,List.nil_append] at e1
 simp [hk] at hv
 subst hv
 simp [c107,AC.snd,End,g107,h1,h2,h3,hb,kl,k0,chkLoad,isSt,eqRd,AV.beqs,AV.beq,AV.beqs_refl,e1,a1]
theorem s107_3 (hk : x.kind = 3) : Runs (C u).gl (cvl (C u)) c107.snd.snd s1 (End g107 B (.str (headT x.kind x.gate x.name x.pl x.size x.to))) := by
 have uu := And.intro h1 (And.intro h2 (And.intro h3 (And.intro hb (And.intro e171 (And.intro e172 (And.intro es (And.intro et (And.intro hR (And.intro k0 (And.intro k1 (And.intro k2 (And.intro k3 (And.intro k4 (And.intro k8 kl))))))))))))))
 clear uu
 obtain ⟨hk0,hg,hn,hp,hz,ht⟩ := hR
 obtain ⟨v,hv⟩ : ∃ v,v = headT x.kind x.gate x.name x.pl x.size x.to := ⟨_,rfl⟩
 rw [<- hv]
 simp only [headT] at hv
 rw [hk] at k0
 have l2 := hn (by omega)
 have a1 : aStr .add ([100,114,111,112,32]) (x.name) = some (.str ([100,114,111,112,32] ++ (x.name))) := aStr_add (by simp; omega)
 simp only [List.append_assoc,List.cons_append,List.nil_append] at a1
 simp [hk] at hv
 subst hv
 simp [c107,AC.snd,End,g107,h1,h2,h3,hb,kl,k0,chkLoad,isSt,eqRd,AV.beqs,AV.beq,AV.beqs_refl,k2,a1]
theorem s107_5 (hk : x.kind = 5) : Runs (C u).gl (cvl (C u)) c107.snd.snd s1 (End g107 B (.str (headT x.kind x.gate x.name x.pl x.size x.to))) := by
 have uu := And.intro h1 (And.intro h2 (And.intro h3 (And.intro hb (And.intro e171 (And.intro e172 (And.intro es (And.intro et (And.intro hR (And.intro k0 (And.intro k1 (And.intro k2 (And.intro k3 (And.intro k4 (And.intro k8 kl))))))))))))))
 clear uu
 obtain ⟨hk0,hg,hn,hp,hz,ht⟩ := hR
 obtain ⟨v,hv⟩ : ∃ v,v = headT x.kind x.gate x.name x.pl x.size x.to := ⟨_,rfl⟩
 rw [<- hv]
 simp only [headT] at hv
 rw [hk] at k0
 have l2 := hn (by omega)
 have e1 := e172 (hp (by omega))
 have l1 := plcsT_len (hp (by omega))
 generalize plcsT x.pl = tp at *
 have a1 : aStr .add ([109,101,97,115,117,114,101,32]) (tp) = some (.str ([109,101,97,115,117,114,101,32] ++ (tp))) := aStr_add (by simp; omega)
 have a2 : aStr .add ([109,101,97,115,117,114,101,32] ++ (tp)) ([32,58,32]) = some (.str ([109,101,97,115,117,114,101,32] ++ (tp) ++ ([32,58,32]))) := aStr_add (by simp; omega)
 have a3 : aStr .add ([109,101,97,115,117,114,101,32] ++ (tp) ++ ([32,58,32])) (x.name) = some (.str ([109,101,97,115,117,114,101,32] ++ (tp) ++ ([32,58,32]) ++ (x.name))) := aStr_add (by simp; omega)
 simp only [List.append_assoc,List.cons_append,List.nil_append] at a1 a2 a3
 simp [hk] at hv
 subst hv
 simp [c107,AC.snd,End,g107,h1,h2,h3,hb,kl,k0,chkLoad,isSt,eqRd,AV.beqs,AV.beq,AV.beqs_refl,k2,k3,e1,a1,a2,a3]
theorem s107_6 (hk : x.kind = 6) : Runs (C u).gl (cvl (C u)) c107.snd.snd s1 (End g107 B (.str (headT x.kind x.gate x.name x.pl x.size x.to))) := by
 have uu := And.intro h1 (And.intro h2 (And.intro h3 (And.intro hb (And.intro e171 (And.intro e172 (And.intro es (And.intro et (And.intro hR (And.intro k0 (And.intro k1 (And.intro k2 (And.intro k3 (And.intro k4 (And.intro k8 kl))))))))))))))
 clear uu
 obtain ⟨hk0,hg,hn,hp,hz,ht⟩ := hR
 obtain ⟨v,hv⟩ : ∃ v,v = headT x.kind x.gate x.name x.pl x.size x.to := ⟨_,rfl⟩
 rw [<- hv]
 simp only [headT] at hv
 rw [hk] at k0
 have e1 := e172 (hp (by omega))
 have l1 := plcsT_len (hp (by omega))
 generalize plcsT x.pl = tp at *
 have a1 : aStr .add ([114,101,115,101,116,32]) (tp) = some (.str ([114,101,115,101,116,32] ++ (tp))) := aStr_add (by simp; omega)
 simp only [List.append_assoc,List.cons_append,List.nil_append] at a1
 simp [hk] at hv
 subst hv
 simp [c107,AC.snd,End,g107,h1,h2,h3,hb,kl,k0,chkLoad,isSt,eqRd,AV.beqs,AV.beq,AV.beqs_refl,k3,e1,a1]
theorem s107_7 (hk : x.kind = 7) : Runs (C u).gl (cvl (C u)) c107.snd.snd s1 (End g107 B (.str (headT x.kind x.gate x.name x.pl x.size x.to))) := by
 have uu := And.intro h1 (And.intro h2 (And.intro h3 (And.intro hb (And.intro e171 (And.intro e172 (And.intro es (And.intro et (And.intro hR (And.intro k0 (And.intro k1 (And.intro k2 (And.intro k3 (And.intro k4 (And.intro k8 kl))))))))))))))
 clear uu
 obtain ⟨hk0,hg,hn,hp,hz,ht⟩ := hR
 obtain ⟨v,hv⟩ : ∃ v,v = headT x.kind x.gate x.name x.pl x.size x.to := ⟨_,rfl⟩
 rw [<- hv]
 simp only [headT] at hv
 rw [hk] at k0
 have l2 := hn (by omega)
 have a1 : aStr .add ([105,102,32]) (x.name) = some (.str ([105,102,32] ++ (x.name))) := aStr_add (by simp; omega)
 simp only [List.append_assoc,List.cons_append,List.nil_append] at a1
 simp [hk] at hv
 subst hv
 simp [c107,AC.snd,End,g107,h1,h2,h3,hb,kl,k0,chkLoad,isSt,eqRd,AV.beqs,AV.beq,AV.beqs_refl,k2,a1]
theorem s107_8 (hk : x.kind = 8) : Runs (C u).gl (cvl (C u)) c107.snd.snd s1 (End g107 B (.str (headT x.kind x.gate x.name x.pl x.size x.to))) := by
 have uu := And.intro h1 (And.intro h2 (And.intro h3 (And.intro hb (And.intro e171 (And.intro e172 (And.intro es (And.intro et (And.intro hR (And.intro k0 (And.intro k1 (And.intro k2 (And.intro k3 (And.intro k4 (And.intro k8 kl))))))))))))))
 clear uu
 obtain ⟨hk0,hg,hn,hp,hz,ht⟩ := hR
 obtain ⟨v,hv⟩ : ∃ v,v = headT x.kind x.gate x.name x.pl x.size x.to := ⟨_,rfl⟩
 rw [<- hv]
 simp only [headT] at hv
 rw [hk] at k0
 have l2 := hn (by omega)
 have e1 := es (hz (by omega))
 have l1 := ixR_len (hz (by omega))
 have e2 := et (ht (by omega))
 have l3 := ixR_len (ht (by omega))
 generalize x.size.text = ts at *
 generalize x.to.text = tt at *
 have a1 : aStr .add ([102,111,114,32]) (x.name) = some (.str ([102,111,114,32] ++ (x.name))) := aStr_add (by simp; omega)
 have a2 : aStr .add ([102,111,114,32] ++ (x.name)) ([32,61,32]) = some (.str ([102,111,114,32] ++ (x.name) ++ ([32,61,32]))) := aStr_add (by simp; omega)
 have a3 : aStr .add ([102,111,114,32] ++ (x.name) ++ ([32,61,32])) (ts) = some (.str ([102,111,114,32] ++ (x.name) ++ ([32,61,32]) ++ (ts))) := aStr_add (by simp; omega)
 have a4 : aStr .add ([102,111,114,32] ++ (x.name) ++ ([32,61,32]) ++ (ts)) ([32,58,32]) = some (.str ([102,111,114,32] ++ (x.name) ++ ([32,61,32]) ++ (ts) ++ ([32,58,32]))) := aStr_add (by simp; omega)
 have a5 : aStr .add ([102,111,114,32] ++ (x.name) ++ ([32,61,32]) ++ (ts) ++ ([32,58,32])) (tt) = some (.str ([102,111,114,32] ++ (x.name) ++ ([32,61,32]) ++ (ts) ++ ([32,58,32]) ++ (tt))) := aStr_add (by simp; omega)
 simp only [List.append_assoc,List.cons_append,List.nil_append] at a1 a2 a3 a4 a5
 simp [hk] at hv
 subst hv
 simp [c107,AC.snd,End,g107,h1,h2,h3,hb,kl,k0,chkLoad,isSt,eqRd,AV.beqs,AV.beq,AV.beqs_refl,k2,k4,k8,e1,e2,a1,a2,a3,a4,a5]
theorem s107_9 (hk : x.kind = 9) : Runs (C u).gl (cvl (C u)) c107.snd.snd s1 (End g107 B (.str (headT x.kind x.gate x.name x.pl x.size x.to))) := by
 have uu := And.intro h1 (And.intro h2 (And.intro h3 (And.intro hb (And.intro e171 (And.intro e172 (And.intro es (And.intro et (And.intro hR (And.intro k0 (And.intro k1 (And.intro k2 (And.intro k3 (And.intro k4 (And.intro k8 kl))))))))))))))
 clear uu
 obtain ⟨hk0,hg,hn,hp,hz,ht⟩ := hR
 obtain ⟨v,hv⟩ : ∃ v,v = headT x.kind x.gate x.name x.pl x.size x.to := ⟨_,rfl⟩
 rw [<- hv]
 simp only [headT] at hv
 rw [hk] at k0
 have l2 := hn (by omega)
 have e1 := e172 (hp (by omega))
 have l1 := plcsT_len (hp (by omega))
 generalize plcsT x.pl = tp at *
 have a1 : aStr .add (x.name) ([40]) = some (.str (x.name ++ ([40]))) := aStr_add (by simp; omega)
 have a2 : aStr .add (x.name ++ ([40])) (tp) = some (.str (x.name ++ ([40]) ++ (tp))) := aStr_add (by simp; omega)
 have a3 : aStr .add (x.name ++ ([40]) ++ (tp)) ([41]) = some (.str (x.name ++ ([40]) ++ (tp) ++ ([41]))) := aStr_add (by simp; omega)
 simp only [List.append_assoc,List.cons_append,List.nil_append] at a1 a2 a3
 simp [hk] at hv
 subst hv
 simp [c107,AC.snd,End,g107,h1,h2,h3,hb,kl,k0,chkLoad,isSt,eqRd,AV.beqs,AV.beq,AV.beqs_refl,k2,k3,e1,a1,a2,a3]
theorem s107_10 (hk : x.kind = 10) : Runs (C u).gl (cvl (C u)) c107.snd.snd s1 (End g107 B (.str (headT x.kind x.gate x.name x.pl x.size x.to))) := by
 have uu := And.intro h1 (And.intro h2 (And.intro h3 (And.intro hb (And.intro e171 (And.intro e172 (And.intro es (And.intro et (And.intro hR (And.intro k0 (And.intro k1 (And.intro k2 (And.intro k3 (And.intro k4 (And.intro k8 kl))))))))))))))
 clear uu
 obtain ⟨hk0,hg,hn,hp,hz,ht⟩ := hR
 obtain ⟨v,hv⟩ : ∃ v,v = headT x.kind x.gate x.name x.pl x.size x.to := ⟨_,rfl⟩
 rw [<- hv]
 simp only [headT] at hv
 rw [hk] at k0
 simp [hk] at hv
 subst hv
 simp [c107,AC.snd,End,g107,h1,h2,h3,hb,kl,k0,chkLoad,isSt,eqRd,AV.beqs,AV.beq,AV.beqs_refl]
theorem s107_11 (hk : x.kind = 11) : Runs (C u).gl (cvl (C u)) c107.snd.snd s1 (End g107 B (.str (headT x.kind x.gate x.name x.pl x.size x.to))) := by
 have uu := And.intro h1 (And.intro h2 (And.intro h3 (And.intro hb (And.intro e171 (And.intro e172 (And.intro es (And.intro et (And.intro hR (And.intro k0 (And.intro k1 (And.intro k2 (And.intro k3 (And.intro k4 (And.intro k8 kl))))))))))))))
 clear uu
 obtain ⟨hk0,hg,hn,hp,hz,ht⟩ := hR
 obtain ⟨v,hv⟩ : ∃ v,v = headT x.kind x.gate x.name x.pl x.size x.to := ⟨_,rfl⟩
 rw [<- hv]
 simp only [headT] at hv
 rw [hk] at k0
 simp [hk] at hv
 subst hv
 simp [c107,AC.snd,End,g107,h1,h2,h3,hb,kl,k0,chkLoad,isSt,eqRd,AV.beqs,AV.beq,AV.beqs_refl]
end
theorem f107 (x : Stp) (hx : x.Ok) (hR : headR x.kind x.gate x.name x.pl x.size x.to) (m : Mem) : cvl (C u) (.fn (.func 107) [] []) [x.av] m = some (.str (headT x.kind x.gate x.name x.pl x.size x.to),m) := by
 have hnl : ∀ M : Mem,M.nol = nol := fun _ => rfl
 obtain ⟨o1,o2,o3,o4⟩ := x0_mk hx
 have kl := Stp.cells_len x
 have hnc : x.cells.map nol = x.cells := by rw [<- nols_eq,Stp.nol_cells]
 refine call_runs (g := g107) (by rfl) (by rfl) (by rfl) ?_
 simp only [List.map_cons,List.map_nil,Stp.exp_av _ _ _ hx,g107,c107]
 refine Runs.seq' (M := fun st => getE st.env 1 = .gptr m.blks.length 0 /\ st.mem = { blks := m.blks ++ [.cells x.cells],touched := [] }) (by simp [Stp.av,kl,Mem.push,hnl,hnc]) fun s1 ⟨h1,h3⟩ => ?_
 refine Runs.seq' (M := fun st => getE st.env 1 = .gptr m.blks.length 0 /\ getE st.env 3 = .fn (.func 171) [] [.gptr m.blks.length 0] /\ st.mem = { blks := m.blks ++ [.cells x.cells],touched := [] }) (by simp [h1,h3]) fun s1 ⟨h1,h2,h3⟩ => ?_
 show Runs (C u).gl (cvl (C u)) c107.snd.snd s1 (End g107 m.blks (.str (headT x.kind x.gate x.name x.pl x.size x.to)))
 have hb : (m.blks ++ [Blk.cells x.cells])[m.blks.length]? = some (.cells x.cells) := by simp
 have e171 := fun hs hn T => f171 (u := u) (id := m.blks.length) x { blks := m.blks ++ [.cells x.cells],touched := T } hb o1 hs hn
 have e172 := fun h m => f172 (u := u) x.cp o3 x.pl o4 h m
 have es := fun h m => f114n (u := u) x.size o1 h m
 have et := fun h m => f114n (u := u) x.to o2 h m
 have hk0 := hR.1
 have hkk : x.kind = 1 \/ x.kind = 2 \/ x.kind = 3 \/ x.kind = 4 \/ x.kind = 5 \/ x.kind = 6 \/ x.kind = 7 \/ x.kind = 8 \/ x.kind = 9 \/ x.kind = 10 \/ x.kind = 11 := by omega
 rcases hkk with hk | hk | hk | hk | hk | hk | hk | hk | hk | hk | hk
 ·exact s107_1 h1 h2 h3 hb e171 e172 es et hR (cell0 x) (cell1 x) (cell2 x) (cell3 x) (cell4 x) (cell8 x) kl hk
 ·exact s107_2 h1 h2 h3 hb e171 e172 es et hR (cell0 x) (cell1 x) (cell2 x) (cell3 x) (cell4 x) (cell8 x) kl hk
 ·exact s107_3 h1 h2 h3 hb e171 e172 es et hR (cell0 x) (cell1 x) (cell2 x) (cell3 x) (cell4 x) (cell8 x) kl hk
 ·exact s107_4 h1 h2 h3 hb e171 e172 es et hR (cell0 x) (cell1 x) (cell2 x) (cell3 x) (cell4 x) (cell8 x) kl hk
 ·exact s107_5 h1 h2 h3 hb e171 e172 es et hR (cell0 x) (cell1 x) (cell2 x) (cell3 x) (cell4 x) (cell8 x) kl hk
 ·exact s107_6 h1 h2 h3 hb e171 e172 es et hR (cell0 x) (cell1 x) (cell2 x) (cell3 x) (cell4 x) (cell8 x) kl hk
 ·exact s107_7 h1 h2 h3 hb e171 e172 es et hR (cell0 x) (cell1 x) (cell2 x) (cell3 x) (cell4 x) (cell8 x) kl hk
 ·exact s107_8 h1 h2 h3 hb e171 e172 es et hR (cell0 x) (cell1 x) (cell2 x) (cell3 x) (cell4 x) (cell8 x) kl hk
 ·exact s107_9 h1 h2 h3 hb e171 e172 es et hR (cell0 x) (cell1 x) (cell2 x) (cell3 x) (cell4 x) (cell8 x) kl hk
 ·exact s107_10 h1 h2 h3 hb e171 e172 es et hR (cell0 x) (cell1 x) (cell2 x) (cell3 x) (cell4 x) (cell8 x) kl hk
 ·exact s107_11 h1 h2 h3 hb e171 e172 es et hR (cell0 x) (cell1 x) (cell2 x) (cell3 x) (cell4 x) (cell8 x) kl hk
end Go.Abs.Tz
set_option maxRecDepth 100000
set_option maxHeartbeats 8000000
namespace Go.Abs.Tz
open Go.Abs
variable {u : Nat}
attribute [local simp] exec aops astep wantedA aop evO setO setU getE getE_setE lget lget_lset aBin aInt aUn AV.cells newVar padd rd wr asElem single splice adraw ascan Runs gets RV.get tupled frz_int frz_bool frz_str
def pM (B : List Blk) (s : List Nat) : List Blk := B ++ [.bld 150 5 s,.cells [.fn (.func 105) [] [.gptr B.length 0,.gptr (B.length + 1) 0]]]
theorem pM_len (B : List Blk) (s : List Nat) : (pM B s).length = B.length + 2 := by simp [pM]
theorem pM0 (B : List Blk) (s : List Nat) (ext : List Blk) : (pM B s ++ ext)[B.length]? = some (.bld 150 5 s) := by simp [pM]
theorem pM1 (B : List Blk) (s : List Nat) (ext : List Blk) : (pM B s ++ ext)[B.length + 1]? = some (.cells [.fn (.func 105) [] [.gptr B.length 0,.gptr (B.length + 1) 0]]) := by simp [pM]
theorem pMs (B : List Blk) (s : List Nat) (ext : List Blk) (t : List Nat) : (pM B s ++ ext).set B.length (.bld 150 5 t) = pM B t ++ ext := by simp [pM]
theorem f106 (B : List Blk) (s t : List Nat) (ext : List Blk) (T : List Nat) (h : s.length + t.length <= 1000000000) :
  cvl (C u) (.fn (.func 106) [] []) [.gptr B.length 0,.str t] { blks := pM B s ++ ext,touched := T } = some (.tup [.int .i64 t.length,.nilif],{ blks := pM B (s ++ t) ++ ext,touched := T }) := by
 refine call_prim (p := pWS 150 5) (by rfl) ?_
 have hl : B.length < (pM B s ++ ext).length := by simp [pM_len]; omega
 have h2 : s.length + t.length <= 140737488355328 := by omega
 have he : ∀ k,([] ++ [AV.gptr B.length 0,.str t] ++ []).map (exp (pM B s ++ ext).length k) = [.gptr B.length 0,.str t] := fun k => by
  simp only [List.nil_append,List.append_nil,List.map_cons,List.map_nil,exp,hl,if_true]
 rw [he]
 simp only [pWS,pM0,h2,and_self,if_true,Mem.put,pMs]
def btw (k : Int) : List Nat := if k = 7 then [101,108,115,101] else if k = 11 then [97,112,112,108,121] else []
theorem btw_len (k : Int) : (btw k).length <= 5 := by unfold btw; split <;> (try split) <;> simp
theorem blk0 {y : Stp} (h : 0 < y.blocks.length) : hasBody y.kind = true /\ y.blocks[0]? = some (y.cb,y.body) := by
 unfold Stp.blocks at h ⊢
 by_cases he : hasElse y.kind = true
 ·have hb : hasBody y.kind = true := by simp only [hasBody,hasElse,decide_eq_true_eq] at he ⊢; omega
  simp [he,hb]
 ·by_cases hb : hasBody y.kind = true
  ·simp [he,hb]
  ·simp [he,hb] at h
theorem blk1 {y : Stp} (h : 1 < y.blocks.length) : hasElse y.kind = true /\ y.blocks[1]? = some (y.ce,y.els) := by
 unfold Stp.blocks at h ⊢
 by_cases he : hasElse y.kind = true
 ·simp [he]
 ·by_cases hb : hasBody y.kind = true
  ·simp [he,hb] at h
  ·simp [he,hb] at h
def partT (y : Stp) (b : List Nat) (j : Nat) : List Nat :=
 (if 0 < j then [32,123,10] ++ linesT y.body (b ++ bl2) else []) ++ (if 1 < j /\ ¬ (y.kind = 7 /\ y.els.length = 0) then b ++ [125,32] ++ btw y.kind ++ [32,123,10] ++ linesT y.els (b ++ bl2) else [])
theorem lineT_part (y : Stp) (b : List Nat) : lineT y b = b ++ headT y.kind y.gate y.name y.pl y.size y.to ++ (partT y b y.blocks.length ++ (if 0 < y.blocks.length then b ++ [125,10] else [59,10])) := by
 rw [lineT_eq]
 unfold partT Stp.blocks
 by_cases he : hasElse y.kind = true
 ·have hb : hasBody y.kind = true := by simp only [hasBody,hasElse,decide_eq_true_eq] at he ⊢; omega
  have hk : y.kind = 7 \/ y.kind = 11 := by simpa only [hasElse,decide_eq_true_eq] using he
  have hbt : btw y.kind = betweenT y.kind := by rcases hk with h | h <;> simp [btw,betweenT,h]
  simp [he,hb,hbt]
 ·by_cases hb : hasBody y.kind = true
  ·simp [he,hb]
  ·simp [he,hb]
theorem partT_le (y : Stp) (b : List Nat) {j j' : Nat} (h : j <= j') : (partT y b j).length <= (partT y b j').length := by
 unfold partT
 simp only [List.length_append]
 have h1 : (if 0 < j then [32,123,10] ++ linesT y.body (b ++ bl2) else []).length <= (if 0 < j' then [32,123,10] ++ linesT y.body (b ++ bl2) else []).length := by
  by_cases h0 : 0 < j
  ·rw [if_pos h0,if_pos (by omega)]; exact Nat.le_refl _
  ·rw [if_neg h0]; simp
 have h2 : (if 1 < j /\ ¬ (y.kind = 7 /\ y.els.length = 0) then b ++ [125,32] ++ btw y.kind ++ [32,123,10] ++ linesT y.els (b ++ bl2) else []).length <= (if 1 < j' /\ ¬ (y.kind = 7 /\ y.els.length = 0) then b ++ [125,32] ++ btw y.kind ++ [32,123,10] ++ linesT y.els (b ++ bl2) else []).length := by
  by_cases h0 : 1 < j /\ ¬ (y.kind = 7 /\ y.els.length = 0)
  ·rw [if_pos h0,if_pos ⟨by omega,h0.2⟩]; exact Nat.le_refl _
  ·rw [if_neg h0]; simp
 omega
theorem line_le (l : List Stp) (b : List Nat) (i : Nat) (h : i < l.length) : (linesT (l.take i) b).length + (lineT l[i] b).length <= (linesT l b).length := by
 induction l generalizing i with
 | nil => simp at h
 | cons a l ih =>
  cases i with
  | zero => simp [linesT]
  | succ i =>
   have := ih i (by simpa using h)
   simp only [List.take_succ_cons,linesT,List.length_append,List.getElem_cons_succ]
   omega
theorem f105 (B : List Blk) (l : List Stp) : ∀ (c : Cap),okCap c -> Stp.Oks l -> Stp.Rs l -> ∀ b : List Nat,b.length + 2 * Stp.deeps l <= 100 -> Stp.wts l < 1000000000 -> ∀ (s : List Nat),s.length + (linesT l b).length <= 1000000000 -> ∀ (ext : List Blk) (T : List Nat),
  cvl (C u) (.fn (.func 105) [] [.gptr B.length 0,.gptr (B.length + 1) 0]) [.list c (Stp.avs l),.str b] { blks := pM B s ++ ext,touched := T } = some (.tup [],{ blks := pM B (s ++ linesT l b) ++ ext,touched := T }) := by
 refine Stp.lists (P := fun l => ∀ (c : Cap),okCap c -> Stp.Oks l -> Stp.Rs l -> ∀ b : List Nat,b.length + 2 * Stp.deeps l <= 100 -> Stp.wts l < 1000000000 -> ∀ (s : List Nat),s.length + (linesT l b).length <= 1000000000 -> ∀ (ext : List Blk) (T : List Nat),
  cvl (C u) (.fn (.func 105) [] [.gptr B.length 0,.gptr (B.length + 1) 0]) [.list c (Stp.avs l),.str b] { blks := pM B s ++ ext,touched := T } = some (.tup [],{ blks := pM B (s ++ linesT l b) ++ ext,touched := T })) (fun l ih c hc hok hR b hb hw s hs ext T => ?_) l
 refine mod_runs (g := g105) (by rfl) (by rfl) (by rfl) (by simp [pM_len]) ?_
 have hlt0 : B.length < (pM B s ++ ext).length := by simp [pM_len]; omega
 have hlt1 : B.length + 1 < (pM B s ++ ext).length := by simp [pM_len]; omega
 simp only [List.nil_append,List.cons_append,List.map_cons,List.map_nil,exp_stps hc hok]
 simp only [exp,hlt0,hlt1,if_true,g105,c105]
 have hll := Stp.wts_len l
 have hnl : ∀ M : Mem,M.nol = nol := fun _ => rfl
 let K : St -> Prop := fun st => getE st.env 1 = .str b /\ getE st.env 2 = .gptr B.length 0 /\ getE st.env 3 = .gptr (B.length + 1) 0
 let J : Nat -> St -> Prop := fun i st => K st /\ getE st.env 11 = .list c (Stp.avs l) /\ getE st.env 12 = .int .i64 l.length /\ getE st.env 13 = .int .i64 i
 let PM : List Nat -> List Blk -> St -> Prop := fun s x st => st.mem = { blks := pM B s ++ x,touched := [] }
 let I : Nat -> St -> Prop := fun i st => J i st /\ ∃ x,PM (s ++ linesT (l.take i) b) (ext ++ x) st
 refine Runs.seq' (M := fun st => J 0 st /\ PM s ext st) (by simp [J,K,PM,stps_len]) fun s4 ⟨a1,a2⟩ => ?_
 refine Runs.block (Runs.upto (I := I) l.length ⟨a1,[],by simpa [linesT] using a2⟩ (fun i st hlt hst => ?_) (fun st hst => ?_))
 ·obtain ⟨⟨⟨h1,h2,h3⟩,q1,q2,q3⟩,x,h4⟩ := hst
  simp only [PM] at h4
  have hwi : IntKind.wrap .i64 ((i : Int) + 1) = (i : Int) + 1 := wrap_i64 (by omega) (by omega)
  have hg := stp_get l i hlt
  have hm : l[i] ∈ l := List.getElem_mem hlt
  have hoki := Stp.oks_mem hok _ hm
  have hRi := Stp.rs_mem hR _ hm
  obtain ⟨ih1,ih2⟩ := ih _ hm
  have hwm := Stp.wt_mem hm
  have hob := Stp.oks_body hoki
  have hoc := Stp.caps_ok hoki
  have hge := Stp.wt_ge l[i]
  have hdm := deep_mem hm
  have hle := line_le l b i hlt
  have hsn : s ++ linesT (l.take (i + 1)) b = (s ++ linesT (l.take i) b) ++ lineT l[i] b := by rw [List.take_succ_eq_append_getElem hlt,linesT_append,List.append_assoc]
  have hSl : (s ++ linesT (l.take i) b).length + (lineT l[i] b).length <= 1000000000 := by simp; omega
  generalize s ++ linesT (l.take i) b = S at *
  generalize l[i] = y at *
  have hlp := lineT_part y b
  obtain ⟨hhR,hRb,hRe⟩ := headR_kinds hRi
  have hhl := headT_len hhR
  have e107 := fun m => f107 (u := u) y hoki hhR m
  have e108 := fun m => f108 (u := u) y hoki m
  have hdeq := deep_eq y
  have k0 := cell0 y
  have kt := cells14 y
  have kl := Stp.cells_len y
  have hbl : b.length <= 100 := by omega
  have hbw := btw_len y.kind
  generalize headT y.kind y.gate y.name y.pl y.size y.to = hd at *
  simp only [Stp.av,blocksAV] at hg e107 e108
  have hL1 : (lineT y b).length = b.length + hd.length + ((partT y b y.blocks.length).length + (if 0 < y.blocks.length then b.length + 2 else 2)) := by
   rw [hlp]
   simp only [List.length_append]
   split <;> simp
  let J2 : St -> Prop := fun st => J i st /\ ∃ v,getE st.env 7 = .lptr 7 v 0 /\ lget st.loc 7 = some (v,.cells y.cells)
  refine Runs.seq' (M := fun st => J i st /\ PM S (ext ++ x) st /\ getE st.env 14 = .bool true) (by simp [J,K,PM,h1,h2,h3,h4,q1,q2,q3,hlt]) fun s5 ⟨⟨⟨h1,h2,h3⟩,q1,q2,q3⟩,h4,q4⟩ => ?_
  simp only [PM] at h4
  refine Runs.seq' (M := fun st => J i st /\ PM S (ext ++ x) st) (by simp [J,K,PM,h1,h2,h3,h4,q1,q2,q3,q4]) fun s5 ⟨⟨⟨h1,h2,h3⟩,q1,q2,q3⟩,h4⟩ => ?_
  simp only [PM] at h4
  refine Runs.seq (M := fun st => J i st /\ ∃ x2,PM (S ++ lineT y b) (ext ++ x2) st) ?_ fun s6 ⟨⟨⟨h1,h2,h3⟩,q1,q2,q3⟩,x2,h4⟩ => by
   simp only [PM] at h4
   exact Runs.fin (M := fun st => J (i + 1) st /\ PM (S ++ lineT y b) (ext ++ x2) st) .normal (by simp [J,K,PM,h1,h2,h3,h4,q1,q2,q3,hwi]) fun s' ⟨d1,d2⟩ => .inl ⟨rfl,d1,x2,by rw [hsn]; exact d2⟩
  refine Runs.block ?_
  refine Runs.seq' (M := fun st => J2 st /\ PM S (ext ++ x) st) (by simp [J2,J,K,PM,h1,h2,h3,h4,q1,q2,q3,hlt,hg,kl,kt,stps_len]) fun s5 ⟨⟨⟨⟨h1,h2,h3⟩,q1,q2,q3⟩,v,q4,q5⟩,h4⟩ => ?_
  simp only [PM] at h4
  have a1 : aStr .add b hd = some (.str (b ++ hd)) := aStr_add (by omega)
  have w1 := f106 (u := u) B S (b ++ hd) (ext ++ x) [] (by simp; omega)
  refine Runs.seq' (M := fun st => J2 st /\ PM (S ++ (b ++ hd)) (ext ++ x) st) (by simp [J2,J,K,PM,h1,h2,h3,h4,q1,q2,q3,q4,q5,kl,kt,e107,a1,w1]) fun s5 ⟨⟨⟨⟨h1,h2,h3⟩,q1,q2,q3⟩,v,q4,q5⟩,h4⟩ => ?_
  simp only [PM] at h4
  let x2 : List Blk := x ++ [.map [(.int .i64 7,.str [101,108,115,101]),(.int .i64 11,.str [97,112,112,108,121])]]
  refine Runs.seq' (M := fun st => J2 st /\ PM (S ++ (b ++ hd)) (ext ++ x2) st /\ getE st.env 8 = .str (btw y.kind)) (by
   have hx2 : pM B (S ++ (b ++ hd)) ++ (ext ++ x2) = (pM B (S ++ (b ++ hd)) ++ (ext ++ x)) ++ [.map [(.int .i64 7,.str [101,108,115,101]),(.int .i64 11,.str [97,112,112,108,121])]] := by simp [x2]
   simp only [PM]
   rw [hx2]
   generalize pM B (S ++ (b ++ hd)) ++ (ext ++ x) = BB at *
   by_cases k7 : y.kind = 7
   ·rw [k7] at k0
    simp [J2,J,K,h1,h2,h3,h4,q1,q2,q3,q4,q5,kl,k0,k7,Mem.push,Mem.put,isKey,plain,mset,keyEq,mfind,btw,set_last]
   ·by_cases k11 : y.kind = 11
    ·rw [k11] at k0
     simp [J2,J,K,h1,h2,h3,h4,q1,q2,q3,q4,q5,kl,k0,k11,Mem.push,Mem.put,isKey,plain,mset,keyEq,mfind,btw,set_last]
    ·simp [J2,J,K,h1,h2,h3,h4,q1,q2,q3,q4,q5,kl,k0,k7,k11,Mem.push,Mem.put,isKey,plain,mset,keyEq,mfind,btw,set_last]) fun s5 ⟨⟨⟨⟨h1,h2,h3⟩,q1,q2,q3⟩,v,q4,q5⟩,h4,q6⟩ => ?_
  simp only [PM] at h4
  generalize hS2 : S ++ (b ++ hd) = S2 at *
  have hS2l : S2.length = S.length + b.length + hd.length := by rw [<- hS2]; simp; omega
  refine Runs.seq (M := fun st => J2 st /\ ∃ x3,PM (S2 ++ partT y b y.blocks.length) (ext ++ x3) st) ?_ fun s5 ⟨⟨⟨⟨h1,h2,h3⟩,q1,q2,q3⟩,v,q4,q5⟩,x3,h4⟩ => ?_
  ·let JB : St -> Prop := fun st => J2 st /\ getE st.env 8 = .str (btw y.kind) /\ getE st.env 28 = blocksAV y /\ getE st.env 29 = .int .i64 y.blocks.length
   let I2 : Nat -> St -> Prop := fun j st => JB st /\ getE st.env 30 = .int .i64 j /\ ∃ x3,PM (S2 ++ partT y b j) (ext ++ x3) st
   refine Runs.seq' (M := fun st => JB st /\ getE st.env 30 = .int .i64 0 /\ PM S2 (ext ++ x2) st) (by simp [JB,J2,J,K,PM,h1,h2,h3,h4,q1,q2,q3,q4,q5,q6,kl,kt,e108,blocksAV]) fun s6 ⟨a1,a2,a3⟩ => ?_
   refine Runs.block (Runs.upto (I := I2) y.blocks.length ⟨a1,a2,x2,by simpa [partT] using a3⟩ (fun j st hlt2 hst => ?_) (fun st hst => ?_))
   ·obtain ⟨⟨⟨⟨⟨h1,h2,h3⟩,q1,q2,q3⟩,v,q4,q5⟩,q6,z1,z2⟩,z3,x3,h4⟩ := hst
    simp only [PM] at h4
    have hpl := partT_le y b (show j + 1 <= y.blocks.length by omega)
    have hSl' := hSl
    rw [hL1] at hSl'
    have hrest : 2 <= (if 0 < y.blocks.length then b.length + 2 else 2) := by split <;> omega
    have hb2 : y.blocks.length <= 2 := by unfold Stp.blocks; split <;> (try split) <;> simp
    have hwj : IntKind.wrap .i64 ((j : Int) + 1) = (j : Int) + 1 := wrap_i64 (by omega) (by omega)
    simp only [blocksAV,blkAV] at z1
    have hj : j = 0 \/ j = 1 := by omega
    rcases hj with rfl | rfl
    ·obtain ⟨hhb,hb0⟩ := blk0 hlt2
     have hbe : y.blocks[0] = (y.cb,y.body) := by rw [List.getElem?_eq_getElem hlt2] at hb0; simpa using hb0
     rw [hhb] at hdeq
     simp only [if_true] at hdeq
     have hp1 : partT y b (0 + 1) = [32,123,10] ++ linesT y.body (b ++ [32,32]) := by simp [partT,bl2]
     have hp0 : partT y b 0 = [] := by simp [partT]
     rw [hp1] at hpl
     rw [hp0,List.append_nil] at h4
     simp only [List.length_append,List.length_cons,List.length_nil] at hpl
     have a1 : aStr .add b [32,32] = some (.str (b ++ [32,32])) := aStr_add (by simp; omega)
     have w2 := f106 (u := u) B S2 [32,123,10] (ext ++ x3) [] (by simp; omega)
     have w3 := ih1 y.cb hoc.1 hob.1 (hRb hhb) (b ++ [32,32]) (by simp; omega) (by omega) (S2 ++ [32,123,10]) (by simp; omega) (ext ++ x3) []
     have p1 := pM1 B (S2 ++ [32,123,10]) (ext ++ x3)
     refine Runs.fin (M := fun st => JB st /\ getE st.env 30 = .int .i64 1 /\ PM (S2 ++ [32,123,10] ++ linesT y.body (b ++ [32,32])) (ext ++ x3) st) .normal (by
      have hw1 : IntKind.wrap .i64 1 = 1 := by decide
      simp only [PM]
      generalize S2 ++ [32,123,10] ++ linesT y.body (b ++ [32,32]) = S4 at *
      generalize S2 ++ [32,123,10] = S3 at *
      simp [l105_0,JB,J2,J,K,h1,h2,h3,h4,q1,q2,q3,q4,q5,q6,z1,z2,z3,hlt2,hbe,w2,p1,a1,w3,blocksAV,blkAV,hw1]) fun s' ⟨d1,d2,d3⟩ => .inl ⟨rfl,d1,d2,x3,?_⟩
     rw [hp1,<- List.append_assoc]; exact d3
    ·obtain ⟨hhe,hb1⟩ := blk1 hlt2
     have hbe : y.blocks[1] = (y.ce,y.els) := by rw [List.getElem?_eq_getElem hlt2] at hb1; simpa using hb1
     rw [hhe] at hdeq
     simp only [if_true] at hdeq
     have hw1 : IntKind.wrap .i64 2 = 2 := by decide
     have hlti : (1 : Int) < (y.blocks.length : Int) := by omega
     by_cases hc7 : y.kind = 7 /\ y.els.length = 0
     ·have hp2 : partT y b (1 + 1) = partT y b 1 := by simp only [partT,hc7]; simp
      have hen : y.els = [] := List.eq_nil_of_length_eq_zero hc7.2
      rw [hc7.1] at k0
      refine Runs.fin (M := fun st => JB st /\ getE st.env 30 = .int .i64 2 /\ PM (S2 ++ partT y b 1) (ext ++ x3) st) .normal (by
       simp only [PM]
       generalize S2 ++ partT y b 1 = S3 at *
       simp [l105_0,JB,J2,J,K,h1,h2,h3,h4,q1,q2,q3,q4,q5,q6,z1,z2,z3,hlt2,hlti,hbe,kl,k0,hen,Stp.avs,blocksAV,blkAV,hw1]) fun s' ⟨d1,d2,d3⟩ => .inl ⟨rfl,d1,d2,x3,?_⟩
      rw [hp2]; exact d3
     ·have hp2 : partT y b (1 + 1) = partT y b 1 ++ (b ++ [125,32] ++ btw y.kind) ++ [32,123,10] ++ linesT y.els (b ++ [32,32]) := by
       simp only [partT,show 0 < 1 + 1 by decide,show 1 < 1 + 1 by decide,show 0 < 1 by decide,show ¬ 1 < 1 by decide,if_true,hc7,not_false_eq_true,and_self,bl2,false_and,if_false,List.append_nil]
       simp
      rw [hp2] at hpl
      simp only [List.length_append,List.length_cons,List.length_nil] at hpl
      generalize hS3 : S2 ++ partT y b 1 = S3 at *
      have hS3l : S3.length = S2.length + (partT y b 1).length := by rw [<- hS3]; simp
      have a1 : aStr .add b [32,32] = some (.str (b ++ [32,32])) := aStr_add (by simp; omega)
      have a2 : aStr .add b [125,32] = some (.str (b ++ [125,32])) := aStr_add (by simp; omega)
      have a3 : aStr .add (b ++ [125,32]) (btw y.kind) = some (.str (b ++ [125,32] ++ btw y.kind)) := aStr_add (by simp; omega)
      have w2 := f106 (u := u) B S3 (b ++ [125,32] ++ btw y.kind) (ext ++ x3) [] (by simp; omega)
      have w3 := f106 (u := u) B (S3 ++ (b ++ [125,32] ++ btw y.kind)) [32,123,10] (ext ++ x3) [] (by simp; omega)
      have w4 := ih2 y.ce hoc.2 hob.2 (hRe hhe) (b ++ [32,32]) (by simp; omega) (by omega) (S3 ++ (b ++ [125,32] ++ btw y.kind) ++ [32,123,10]) (by simp; omega) (ext ++ x3) []
      have p1 := pM1 B (S3 ++ (b ++ [125,32] ++ btw y.kind) ++ [32,123,10]) (ext ++ x3)
      have hne : y.kind = 7 -> ((y.els.length : Int) == 0) = false := fun h => by
       have : ¬ y.els.length = 0 := fun h2 => hc7 ⟨h,h2⟩
       simp; intro h3; rw [h3] at this; exact this rfl
      refine Runs.fin (M := fun st => JB st /\ getE st.env 30 = .int .i64 2 /\ PM (S3 ++ (b ++ [125,32] ++ btw y.kind) ++ [32,123,10] ++ linesT y.els (b ++ [32,32])) (ext ++ x3) st) .normal (by
       simp only [PM]
       generalize S3 ++ (b ++ [125,32] ++ btw y.kind) ++ [32,123,10] ++ linesT y.els (b ++ [32,32]) = S6 at *
       generalize S3 ++ (b ++ [125,32] ++ btw y.kind) ++ [32,123,10] = S5 at *
       generalize S3 ++ (b ++ [125,32] ++ btw y.kind) = S4 at *
       generalize b ++ [125,32] ++ btw y.kind = tb at *
       by_cases k7 : y.kind = 7
       ·have hne' := hne k7
        rw [k7] at k0 q6 a3
        simp [l105_0,JB,J2,J,K,h1,h2,h3,h4,q1,q2,q3,q4,q5,q6,z1,z2,z3,hlt2,hlti,hbe,kl,k0,k7,stps_len,hne',w2,w3,p1,a1,a2,a3,w4,blocksAV,blkAV,hw1]
       ·simp [l105_0,JB,J2,J,K,h1,h2,h3,h4,q1,q2,q3,q4,q5,q6,z1,z2,z3,hlt2,hlti,hbe,kl,k0,ne_true k7,w2,w3,p1,a1,a2,a3,w4,blocksAV,blkAV,hw1]) fun s' ⟨d1,d2,d3⟩ => .inl ⟨rfl,d1,d2,x3,?_⟩
      have : S2 ++ (partT y b 1 ++ (b ++ [125,32] ++ btw y.kind) ++ [32,123,10] ++ linesT y.els (b ++ [32,32])) = S3 ++ (b ++ [125,32] ++ btw y.kind) ++ [32,123,10] ++ linesT y.els (b ++ [32,32]) := by rw [<- hS3]; simp
      rw [hp2,this]; exact d3
   ·obtain ⟨⟨⟨⟨⟨h1,h2,h3⟩,q1,q2,q3⟩,v,q4,q5⟩,q6,z1,z2⟩,z3,x3,h4⟩ := hst
    simp only [PM] at h4
    refine Runs.fin (M := fun st => J2 st /\ PM (S2 ++ partT y b y.blocks.length) (ext ++ x3) st) (.exit 2) (by
     simp [l105_0,J2,J,K,PM,h1,h2,h3,h4,q1,q2,q3,q4,q5,q6,z1,z2,z3]) fun s' ⟨d1,d2⟩ => ?_
    exact ⟨by simp,.inl ⟨rfl,.inl ⟨rfl,d1,x3,d2⟩⟩⟩
  ·simp only [PM] at h4
   have hLL : S ++ lineT y b = S2 ++ partT y b y.blocks.length ++ (if 0 < y.blocks.length then b ++ [125,10] else [59,10]) := by
    rw [hlp,<- hS2]; simp
   rw [hLL]
   generalize hS3 : S2 ++ partT y b y.blocks.length = S3 at *
   have hS3l : S3.length = S2.length + (partT y b y.blocks.length).length := by rw [<- hS3]; simp
   by_cases h0 : 0 < y.blocks.length
   ·rw [if_pos h0] at hL1 ⊢
    have h0' : (0 : Int) < (y.blocks.length : Int) := by omega
    have a1 : aStr .add b [125,10] = some (.str (b ++ [125,10])) := aStr_add (by simp; omega)
    have w2 := f106 (u := u) B S3 (b ++ [125,10]) (ext ++ x3) [] (by simp; omega)
    refine Runs.fin (M := fun st => J i st /\ PM (S3 ++ (b ++ [125,10])) (ext ++ x3) st) .normal (by
     simp [J,K,PM,h1,h2,h3,h4,q1,q2,q3,q4,q5,kl,kt,e108,h0,h0',a1,w2]) fun s' ⟨d1,d2⟩ => ?_
    simp
    exact ⟨d1,x3,d2⟩
   ·rw [if_neg h0] at hL1 ⊢
    have h0' : ¬ (0 : Int) < (y.blocks.length : Int) := by omega
    have w2 := f106 (u := u) B S3 [59,10] (ext ++ x3) [] (by simp; omega)
    refine Runs.fin (M := fun st => J i st /\ PM (S3 ++ [59,10]) (ext ++ x3) st) .normal (by
     simp [J,K,PM,h1,h2,h3,h4,q1,q2,q3,q4,q5,kl,kt,e108,h0,h0',w2]) fun s' ⟨d1,d2⟩ => ?_
    simp
    exact ⟨d1,x3,d2⟩
 ·obtain ⟨⟨⟨h1,h2,h3⟩,q1,q2,q3⟩,x,h4⟩ := hst
  simp only [PM] at h4
  rw [List.take_length] at h4
  simp [l105_1,h1,h2,h3,h4,q1,q2,q3,frz_tup0]
end Go.Abs.Tz
