/- A text of this proof. -/
import Derived.Test.YtiigojkfojnedaaGreatDoorPHr
set_option linter.unusedVariables false
set_option linter.unusedSimpArgs false
set_option maxRecDepth 100000
set_option maxHeartbeats 8000000
namespace Go.Abs.Tz
open Go.Abs
variable {u : Nat}
attribute [local simp] exec aops astep wantedA aop evO setO setU getE getE_setE lget lget_lset aBin aInt aUn AV.cells newVar padd rd wr asElem single splice aStr adraw ascan Runs gets RV.get tupled frz_int frz_bool
def prgAV (c : Cap) (ps : List Prc) : AV := .agg [.list c (ps.map Prc.av)]
theorem exp_prcs {n : Nat} {k : Bool} {c : Cap} (hc : okCap c) {ps : List Prc} (h : ∀ x ∈ ps,x.Ok) : exp n k (.list c (ps.map Prc.av)) = .list c (ps.map Prc.av) := by
 have : exps n k (ps.map Prc.av) = ps.map Prc.av := by
  rw [exps_eq,List.map_map]
  exact List.map_congr_left fun p hp => Prc.exp_av n k p (h p hp)
 simp only [exp,exp_cap hc,this]
theorem exp_prg {n : Nat} {k : Bool} {c : Cap} (hc : okCap c) {ps : List Prc} (h : ∀ x ∈ ps,x.Ok) : exp n k (prgAV c ps) = prgAV c ps := by
 have := exp_prcs (n := n) (k := k) hc h
 simp only [prgAV,exp,exps] at this ⊢
 rw [this]
theorem procI_cases (ps : List Prc) (s : List Nat) : (procI ps s = -1 /\ procN ps s = none) \/ ∃ (n : Nat) (q : Prc),procI ps s = (n : Int) /\ procN ps s = some n /\ ps[n]? = some q /\ n < ps.length := by
 unfold procI
 cases h : procN ps s with
 | none => exact .inl ⟨rfl,rfl⟩
 | some n =>
  rw [procN,List.findIdx?_eq_some_iff_getElem] at h
  obtain ⟨h1,h2,_⟩ := h
  exact .inr ⟨n,ps[n],rfl,rfl,List.getElem?_eq_getElem h1,h1⟩
theorem f218_1 (cps : Cap) (hcps : okCap cps) (ps : List Prc) (hps : ∀ x ∈ ps,x.Ok) (hpl : ps.length < 1000000000000) (own : Nat) (x : Stp) (hx : x.Ok) (hxw : x.wt < 1000000000000)
  (c : Cap) (hc : okCap c) (ns : List Nme) (d : Int) (L : Look) (hs : RScope ns d L) (hl : ns.length < 1000000000000) (m : Mem) (hk1 : x.kind = 1) :
  cvl (C u) (.fn (.func 218) [] []) [prgAV cps ps,.int .i64 own,x.av,nmsAV c ns,.int .i64 d] m = some (.int .i64 (stepE ps own L x),m) := by
 refine call_runs (g := g218) (by rfl) (by rfl) (by rfl) ?_
 simp only [List.map_cons,List.map_nil,Stp.exp_av _ _ _ hx,exp_nms hc,exp_prg hcps hps]
 simp only [exp,g218,c218]
 obtain ⟨k,g,nm,cp,pl,size,to,cb,body,ce,els⟩ := x
 simp only [Stp.Ok] at hx
 simp only [Stp.wt] at hxw
 have e99 := fun m => f99 (u := u) g 1 12 m
 have e257 := fun m => f257 (u := u) g m
 have e258 := fun m => f258 (u := u) c hc ns d L hs hl cp hx.2.1 pl hx.2.2.1 (by omega) m
 have e259 := fun m => f259 (u := u) c hc ns d L hs nm hl m
 have e103s := fun m => f103 (u := u) c hc ns d L hs hl size hx.2.2.2.1.1 (by omega) m
 have e103t := fun m => f103 (u := u) c hc ns d L hs hl to hx.2.2.2.2.1.1 (by omega) m
 have e165 := fun m => f165 (u := u) c hc ns nm hl m
 have e260 := fun m => f260 (u := u) c hc ns d L hs nm hl m
 have e150 := fun m => f150 (u := u) cps hcps ps hps nm hpl m
 obtain ⟨nn,w,e',hf,h0,h5,hL,-⟩ := find_cases hs nm
 rw [hf] at e165
 simp only [Nme.av] at e165
 have hw : w = 0 \/ w = 1 \/ w = 2 \/ w = 3 \/ w = 4 \/ w = 5 := by omega
 simp only [stepE]
 have hpe : ∀ p,pl = [p] -> first (placeE L) pl = placeE L p := fun p hp => by subst hp; simp only [first]; split <;> simp_all
 generalize first (placeE L) pl = pe at *
 generalize newE L nm = ne at *
 generalize size.err (mayOf L) 1 = se at *
 generalize to.err (mayOf L) 1 = te at *
 obtain ⟨k1,n1,s1,c1,l1⟩ := size
 obtain ⟨k2,n2,s2,c2,l2⟩ := to
 simp only [Idx.av,prgAV] at *
 simp only [Stp.kind] at hk1
 subst hk1
 by_cases hg : g < 1 \/ 12 < g
 ·have : (decide (g < 1) || decide (g > 12)) = true := by simpa using hg
  rw [this] at e99
  simp [Stp.av,Stp.cells,Idx.four,e99,hg]
 ·have : (decide (g < 1) || decide (g > 12)) = false := by simp; omega
  rw [this] at e99
  by_cases hla : pl.length = arityN g
  ·have : ((pl.length : Int) != (arityN g : Int)) = false := by simp; omega
   simp [Stp.av,Stp.cells,Idx.four,e99,e257,chkLoad,isSt,this,hg,hla,e258]
  ·have : ((pl.length : Int) != (arityN g : Int)) = true := by simp; omega
   simp [Stp.av,Stp.cells,Idx.four,e99,e257,chkLoad,isSt,this,hg,hla]
theorem f218_24 (cps : Cap) (hcps : okCap cps) (ps : List Prc) (hps : ∀ x ∈ ps,x.Ok) (hpl : ps.length < 1000000000000) (own : Nat) (x : Stp) (hx : x.Ok) (hxw : x.wt < 1000000000000)
  (c : Cap) (hc : okCap c) (ns : List Nme) (d : Int) (L : Look) (hs : RScope ns d L) (hl : ns.length < 1000000000000) (m : Mem) (hk24 : x.kind = 2 \/ x.kind = 4) :
  cvl (C u) (.fn (.func 218) [] []) [prgAV cps ps,.int .i64 own,x.av,nmsAV c ns,.int .i64 d] m = some (.int .i64 (stepE ps own L x),m) := by
 refine call_runs (g := g218) (by rfl) (by rfl) (by rfl) ?_
 simp only [List.map_cons,List.map_nil,Stp.exp_av _ _ _ hx,exp_nms hc,exp_prg hcps hps]
 simp only [exp,g218,c218]
 obtain ⟨k,g,nm,cp,pl,size,to,cb,body,ce,els⟩ := x
 simp only [Stp.Ok] at hx
 simp only [Stp.wt] at hxw
 have e99 := fun m => f99 (u := u) g 1 12 m
 have e257 := fun m => f257 (u := u) g m
 have e258 := fun m => f258 (u := u) c hc ns d L hs hl cp hx.2.1 pl hx.2.2.1 (by omega) m
 have e259 := fun m => f259 (u := u) c hc ns d L hs nm hl m
 have e103s := fun m => f103 (u := u) c hc ns d L hs hl size hx.2.2.2.1.1 (by omega) m
 have e103t := fun m => f103 (u := u) c hc ns d L hs hl to hx.2.2.2.2.1.1 (by omega) m
 have e165 := fun m => f165 (u := u) c hc ns nm hl m
 have e260 := fun m => f260 (u := u) c hc ns d L hs nm hl m
 have e150 := fun m => f150 (u := u) cps hcps ps hps nm hpl m
 obtain ⟨nn,w,e',hf,h0,h5,hL,-⟩ := find_cases hs nm
 rw [hf] at e165
 simp only [Nme.av] at e165
 have hw : w = 0 \/ w = 1 \/ w = 2 \/ w = 3 \/ w = 4 \/ w = 5 := by omega
 simp only [stepE]
 have hpe : ∀ p,pl = [p] -> first (placeE L) pl = placeE L p := fun p hp => by subst hp; simp only [first]; split <;> simp_all
 generalize first (placeE L) pl = pe at *
 generalize newE L nm = ne at *
 generalize size.err (mayOf L) 1 = se at *
 generalize to.err (mayOf L) 1 = te at *
 obtain ⟨k1,n1,s1,c1,l1⟩ := size
 obtain ⟨k2,n2,s2,c2,l2⟩ := to
 simp only [Idx.av,prgAV] at *
 simp only [Stp.kind] at hk24
 rcases hk24 with rfl | rfl
 ·by_cases hn : ne = 0
  ·subst hn; simp [Stp.av,Stp.cells,Idx.four,e259,e103s]
  ·simp [Stp.av,Stp.cells,Idx.four,e259,bne_true hn,hn]
 ·by_cases hn : ne = 0
  ·subst hn; simp [Stp.av,Stp.cells,Idx.four,e259,e103s]
  ·simp [Stp.av,Stp.cells,Idx.four,e259,bne_true hn,hn]
theorem f218_3 (cps : Cap) (hcps : okCap cps) (ps : List Prc) (hps : ∀ x ∈ ps,x.Ok) (hpl : ps.length < 1000000000000) (own : Nat) (x : Stp) (hx : x.Ok) (hxw : x.wt < 1000000000000)
  (c : Cap) (hc : okCap c) (ns : List Nme) (d : Int) (L : Look) (hs : RScope ns d L) (hl : ns.length < 1000000000000) (m : Mem) (hk3 : x.kind = 3) :
  cvl (C u) (.fn (.func 218) [] []) [prgAV cps ps,.int .i64 own,x.av,nmsAV c ns,.int .i64 d] m = some (.int .i64 (stepE ps own L x),m) := by
 refine call_runs (g := g218) (by rfl) (by rfl) (by rfl) ?_
 simp only [List.map_cons,List.map_nil,Stp.exp_av _ _ _ hx,exp_nms hc,exp_prg hcps hps]
 simp only [exp,g218,c218]
 obtain ⟨k,g,nm,cp,pl,size,to,cb,body,ce,els⟩ := x
 simp only [Stp.Ok] at hx
 simp only [Stp.wt] at hxw
 have e99 := fun m => f99 (u := u) g 1 12 m
 have e257 := fun m => f257 (u := u) g m
 have e258 := fun m => f258 (u := u) c hc ns d L hs hl cp hx.2.1 pl hx.2.2.1 (by omega) m
 have e259 := fun m => f259 (u := u) c hc ns d L hs nm hl m
 have e103s := fun m => f103 (u := u) c hc ns d L hs hl size hx.2.2.2.1.1 (by omega) m
 have e103t := fun m => f103 (u := u) c hc ns d L hs hl to hx.2.2.2.2.1.1 (by omega) m
 have e165 := fun m => f165 (u := u) c hc ns nm hl m
 have e260 := fun m => f260 (u := u) c hc ns d L hs nm hl m
 have e150 := fun m => f150 (u := u) cps hcps ps hps nm hpl m
 obtain ⟨nn,w,e',hf,h0,h5,hL,-⟩ := find_cases hs nm
 rw [hf] at e165
 simp only [Nme.av] at e165
 have hw : w = 0 \/ w = 1 \/ w = 2 \/ w = 3 \/ w = 4 \/ w = 5 := by omega
 simp only [stepE]
 have hpe : ∀ p,pl = [p] -> first (placeE L) pl = placeE L p := fun p hp => by subst hp; simp only [first]; split <;> simp_all
 generalize first (placeE L) pl = pe at *
 generalize newE L nm = ne at *
 generalize size.err (mayOf L) 1 = se at *
 generalize to.err (mayOf L) 1 = te at *
 obtain ⟨k1,n1,s1,c1,l1⟩ := size
 obtain ⟨k2,n2,s2,c2,l2⟩ := to
 simp only [Idx.av,prgAV] at *
 simp only [Stp.kind] at hk3
 subst hk3
 simp only [hL] at e260 ⊢
 rcases hw with rfl | rfl | rfl | rfl | rfl | rfl
 ·simp [lookR,What.isReg] at e260; simp [Stp.av,Stp.cells,Idx.four,e165,e260,lookR]
 ·simp [lookR,What.isReg] at e260; simp [Stp.av,Stp.cells,Idx.four,e165,e260,lookR]
 ·simp [lookR,What.isReg] at e260
  by_cases hd : e' = d
  ·subst hd; simp [Stp.av,Stp.cells,Idx.four,e165,e260,lookR]
  ·simp [Stp.av,Stp.cells,Idx.four,e165,e260,lookR,hd,bne_true hd]
 ·simp [lookR,What.isReg] at e260; simp [Stp.av,Stp.cells,Idx.four,e165,e260,lookR]
 ·simp [lookR,What.isReg] at e260; simp [Stp.av,Stp.cells,Idx.four,e165,e260,lookR]
 ·simp [lookR,What.isReg] at e260; simp [Stp.av,Stp.cells,Idx.four,e165,e260,lookR]
theorem f218_5 (cps : Cap) (hcps : okCap cps) (ps : List Prc) (hps : ∀ x ∈ ps,x.Ok) (hpl : ps.length < 1000000000000) (own : Nat) (x : Stp) (hx : x.Ok) (hxw : x.wt < 1000000000000)
  (c : Cap) (hc : okCap c) (ns : List Nme) (d : Int) (L : Look) (hs : RScope ns d L) (hl : ns.length < 1000000000000) (m : Mem) (hk5 : x.kind = 5) :
  cvl (C u) (.fn (.func 218) [] []) [prgAV cps ps,.int .i64 own,x.av,nmsAV c ns,.int .i64 d] m = some (.int .i64 (stepE ps own L x),m) := by
 refine call_runs (g := g218) (by rfl) (by rfl) (by rfl) ?_
 simp only [List.map_cons,List.map_nil,Stp.exp_av _ _ _ hx,exp_nms hc,exp_prg hcps hps]
 simp only [exp,g218,c218]
 obtain ⟨k,g,nm,cp,pl,size,to,cb,body,ce,els⟩ := x
 simp only [Stp.Ok] at hx
 simp only [Stp.wt] at hxw
 have e99 := fun m => f99 (u := u) g 1 12 m
 have e257 := fun m => f257 (u := u) g m
 have e258 := fun m => f258 (u := u) c hc ns d L hs hl cp hx.2.1 pl hx.2.2.1 (by omega) m
 have e259 := fun m => f259 (u := u) c hc ns d L hs nm hl m
 have e103s := fun m => f103 (u := u) c hc ns d L hs hl size hx.2.2.2.1.1 (by omega) m
 have e103t := fun m => f103 (u := u) c hc ns d L hs hl to hx.2.2.2.2.1.1 (by omega) m
 have e165 := fun m => f165 (u := u) c hc ns nm hl m
 have e260 := fun m => f260 (u := u) c hc ns d L hs nm hl m
 have e150 := fun m => f150 (u := u) cps hcps ps hps nm hpl m
 obtain ⟨nn,w,e',hf,h0,h5,hL,-⟩ := find_cases hs nm
 rw [hf] at e165
 simp only [Nme.av] at e165
 have hw : w = 0 \/ w = 1 \/ w = 2 \/ w = 3 \/ w = 4 \/ w = 5 := by omega
 simp only [stepE]
 have hpe : ∀ p,pl = [p] -> first (placeE L) pl = placeE L p := fun p hp => by subst hp; simp only [first]; split <;> simp_all
 generalize first (placeE L) pl = pe at *
 generalize newE L nm = ne at *
 generalize size.err (mayOf L) 1 = se at *
 generalize to.err (mayOf L) 1 = te at *
 obtain ⟨k1,n1,s1,c1,l1⟩ := size
 obtain ⟨k2,n2,s2,c2,l2⟩ := to
 simp only [Idx.av,prgAV] at *
 simp only [Stp.kind] at hk5
 subst hk5
 rcases pl with _ | ⟨p,_ | ⟨q,rest⟩⟩
 ·simp [Stp.av,Stp.cells,Idx.four]
 ·have hpp := hpe p rfl
  subst hpp
  simp only [List.map_cons,List.map_nil] at e258
  simp only [hL]
  by_cases hz : placeE L p = 0
  ·rw [hz] at e258
   rcases hw with rfl | rfl | rfl | rfl | rfl | rfl <;> simp [Stp.av,Stp.cells,Idx.four,e258,e165,e259,lookR,hz]
  ·simp [Stp.av,Stp.cells,Idx.four,e258,bne_true hz,hz]
 ·have : ((rest.length : Int) + 1 + 1 != 1) = true := by simp; omega
  simp [Stp.av,Stp.cells,Idx.four,this]
theorem f218_6 (cps : Cap) (hcps : okCap cps) (ps : List Prc) (hps : ∀ x ∈ ps,x.Ok) (hpl : ps.length < 1000000000000) (own : Nat) (x : Stp) (hx : x.Ok) (hxw : x.wt < 1000000000000)
  (c : Cap) (hc : okCap c) (ns : List Nme) (d : Int) (L : Look) (hs : RScope ns d L) (hl : ns.length < 1000000000000) (m : Mem) (hk6 : x.kind = 6) :
  cvl (C u) (.fn (.func 218) [] []) [prgAV cps ps,.int .i64 own,x.av,nmsAV c ns,.int .i64 d] m = some (.int .i64 (stepE ps own L x),m) := by
 refine call_runs (g := g218) (by rfl) (by rfl) (by rfl) ?_
 simp only [List.map_cons,List.map_nil,Stp.exp_av _ _ _ hx,exp_nms hc,exp_prg hcps hps]
 simp only [exp,g218,c218]
 obtain ⟨k,g,nm,cp,pl,size,to,cb,body,ce,els⟩ := x
 simp only [Stp.Ok] at hx
 simp only [Stp.wt] at hxw
 have e99 := fun m => f99 (u := u) g 1 12 m
 have e257 := fun m => f257 (u := u) g m
 have e258 := fun m => f258 (u := u) c hc ns d L hs hl cp hx.2.1 pl hx.2.2.1 (by omega) m
 have e259 := fun m => f259 (u := u) c hc ns d L hs nm hl m
 have e103s := fun m => f103 (u := u) c hc ns d L hs hl size hx.2.2.2.1.1 (by omega) m
 have e103t := fun m => f103 (u := u) c hc ns d L hs hl to hx.2.2.2.2.1.1 (by omega) m
 have e165 := fun m => f165 (u := u) c hc ns nm hl m
 have e260 := fun m => f260 (u := u) c hc ns d L hs nm hl m
 have e150 := fun m => f150 (u := u) cps hcps ps hps nm hpl m
 obtain ⟨nn,w,e',hf,h0,h5,hL,-⟩ := find_cases hs nm
 rw [hf] at e165
 simp only [Nme.av] at e165
 have hw : w = 0 \/ w = 1 \/ w = 2 \/ w = 3 \/ w = 4 \/ w = 5 := by omega
 simp only [stepE]
 have hpe : ∀ p,pl = [p] -> first (placeE L) pl = placeE L p := fun p hp => by subst hp; simp only [first]; split <;> simp_all
 generalize first (placeE L) pl = pe at *
 generalize newE L nm = ne at *
 generalize size.err (mayOf L) 1 = se at *
 generalize to.err (mayOf L) 1 = te at *
 obtain ⟨k1,n1,s1,c1,l1⟩ := size
 obtain ⟨k2,n2,s2,c2,l2⟩ := to
 simp only [Idx.av,prgAV] at *
 simp only [Stp.kind] at hk6
 subst hk6
 rcases pl with _ | ⟨p,_ | ⟨q,rest⟩⟩
 ·simp [Stp.av,Stp.cells,Idx.four]
 ·have hpp := hpe p rfl
  subst hpp
  simp only [List.map_cons,List.map_nil] at e258
  simp [Stp.av,Stp.cells,Idx.four,e258]
 ·have : ((rest.length : Int) + 1 + 1 != 1) = true := by simp; omega
  simp [Stp.av,Stp.cells,Idx.four,this]
theorem f218_7 (cps : Cap) (hcps : okCap cps) (ps : List Prc) (hps : ∀ x ∈ ps,x.Ok) (hpl : ps.length < 1000000000000) (own : Nat) (x : Stp) (hx : x.Ok) (hxw : x.wt < 1000000000000)
  (c : Cap) (hc : okCap c) (ns : List Nme) (d : Int) (L : Look) (hs : RScope ns d L) (hl : ns.length < 1000000000000) (m : Mem) (hk7 : x.kind = 7) :
  cvl (C u) (.fn (.func 218) [] []) [prgAV cps ps,.int .i64 own,x.av,nmsAV c ns,.int .i64 d] m = some (.int .i64 (stepE ps own L x),m) := by
 refine call_runs (g := g218) (by rfl) (by rfl) (by rfl) ?_
 simp only [List.map_cons,List.map_nil,Stp.exp_av _ _ _ hx,exp_nms hc,exp_prg hcps hps]
 simp only [exp,g218,c218]
 obtain ⟨k,g,nm,cp,pl,size,to,cb,body,ce,els⟩ := x
 simp only [Stp.Ok] at hx
 simp only [Stp.wt] at hxw
 have e99 := fun m => f99 (u := u) g 1 12 m
 have e257 := fun m => f257 (u := u) g m
 have e258 := fun m => f258 (u := u) c hc ns d L hs hl cp hx.2.1 pl hx.2.2.1 (by omega) m
 have e259 := fun m => f259 (u := u) c hc ns d L hs nm hl m
 have e103s := fun m => f103 (u := u) c hc ns d L hs hl size hx.2.2.2.1.1 (by omega) m
 have e103t := fun m => f103 (u := u) c hc ns d L hs hl to hx.2.2.2.2.1.1 (by omega) m
 have e165 := fun m => f165 (u := u) c hc ns nm hl m
 have e260 := fun m => f260 (u := u) c hc ns d L hs nm hl m
 have e150 := fun m => f150 (u := u) cps hcps ps hps nm hpl m
 obtain ⟨nn,w,e',hf,h0,h5,hL,-⟩ := find_cases hs nm
 rw [hf] at e165
 simp only [Nme.av] at e165
 have hw : w = 0 \/ w = 1 \/ w = 2 \/ w = 3 \/ w = 4 \/ w = 5 := by omega
 simp only [stepE]
 have hpe : ∀ p,pl = [p] -> first (placeE L) pl = placeE L p := fun p hp => by subst hp; simp only [first]; split <;> simp_all
 generalize first (placeE L) pl = pe at *
 generalize newE L nm = ne at *
 generalize size.err (mayOf L) 1 = se at *
 generalize to.err (mayOf L) 1 = te at *
 obtain ⟨k1,n1,s1,c1,l1⟩ := size
 obtain ⟨k2,n2,s2,c2,l2⟩ := to
 simp only [Idx.av,prgAV] at *
 simp only [Stp.kind] at hk7
 subst hk7
 simp only [hL]
 rcases hw with rfl | rfl | rfl | rfl | rfl | rfl <;> simp [Stp.av,Stp.cells,Idx.four,e165,lookR]
theorem f218_8 (cps : Cap) (hcps : okCap cps) (ps : List Prc) (hps : ∀ x ∈ ps,x.Ok) (hpl : ps.length < 1000000000000) (own : Nat) (x : Stp) (hx : x.Ok) (hxw : x.wt < 1000000000000)
  (c : Cap) (hc : okCap c) (ns : List Nme) (d : Int) (L : Look) (hs : RScope ns d L) (hl : ns.length < 1000000000000) (m : Mem) (hk8 : x.kind = 8) :
  cvl (C u) (.fn (.func 218) [] []) [prgAV cps ps,.int .i64 own,x.av,nmsAV c ns,.int .i64 d] m = some (.int .i64 (stepE ps own L x),m) := by
 refine call_runs (g := g218) (by rfl) (by rfl) (by rfl) ?_
 simp only [List.map_cons,List.map_nil,Stp.exp_av _ _ _ hx,exp_nms hc,exp_prg hcps hps]
 simp only [exp,g218,c218]
 obtain ⟨k,g,nm,cp,pl,size,to,cb,body,ce,els⟩ := x
 simp only [Stp.Ok] at hx
 simp only [Stp.wt] at hxw
 have e99 := fun m => f99 (u := u) g 1 12 m
 have e257 := fun m => f257 (u := u) g m
 have e258 := fun m => f258 (u := u) c hc ns d L hs hl cp hx.2.1 pl hx.2.2.1 (by omega) m
 have e259 := fun m => f259 (u := u) c hc ns d L hs nm hl m
 have e103s := fun m => f103 (u := u) c hc ns d L hs hl size hx.2.2.2.1.1 (by omega) m
 have e103t := fun m => f103 (u := u) c hc ns d L hs hl to hx.2.2.2.2.1.1 (by omega) m
 have e165 := fun m => f165 (u := u) c hc ns nm hl m
 have e260 := fun m => f260 (u := u) c hc ns d L hs nm hl m
 have e150 := fun m => f150 (u := u) cps hcps ps hps nm hpl m
 obtain ⟨nn,w,e',hf,h0,h5,hL,-⟩ := find_cases hs nm
 rw [hf] at e165
 simp only [Nme.av] at e165
 have hw : w = 0 \/ w = 1 \/ w = 2 \/ w = 3 \/ w = 4 \/ w = 5 := by omega
 simp only [stepE]
 have hpe : ∀ p,pl = [p] -> first (placeE L) pl = placeE L p := fun p hp => by subst hp; simp only [first]; split <;> simp_all
 generalize first (placeE L) pl = pe at *
 generalize newE L nm = ne at *
 generalize size.err (mayOf L) 1 = se at *
 generalize to.err (mayOf L) 1 = te at *
 obtain ⟨k1,n1,s1,c1,l1⟩ := size
 obtain ⟨k2,n2,s2,c2,l2⟩ := to
 simp only [Idx.av,prgAV] at *
 simp only [Stp.kind] at hk8
 subst hk8
 by_cases hn : ne = 0
 ·subst hn
  by_cases hse : se = 0
  ·subst hse; simp [Stp.av,Stp.cells,Idx.four,e259,e103s,e103t]
  ·simp [Stp.av,Stp.cells,Idx.four,e259,e103s,bne_true hse,hse]
 ·simp [Stp.av,Stp.cells,Idx.four,e259,bne_true hn,hn]
theorem f218_9 (cps : Cap) (hcps : okCap cps) (ps : List Prc) (hps : ∀ x ∈ ps,x.Ok) (hpl : ps.length < 1000000000000) (own : Nat) (x : Stp) (hx : x.Ok) (hxw : x.wt < 1000000000000)
  (c : Cap) (hc : okCap c) (ns : List Nme) (d : Int) (L : Look) (hs : RScope ns d L) (hl : ns.length < 1000000000000) (m : Mem) (hk9 : x.kind = 9) :
  cvl (C u) (.fn (.func 218) [] []) [prgAV cps ps,.int .i64 own,x.av,nmsAV c ns,.int .i64 d] m = some (.int .i64 (stepE ps own L x),m) := by
 refine call_runs (g := g218) (by rfl) (by rfl) (by rfl) ?_
 simp only [List.map_cons,List.map_nil,Stp.exp_av _ _ _ hx,exp_nms hc,exp_prg hcps hps]
 simp only [exp,g218,c218]
 obtain ⟨k,g,nm,cp,pl,size,to,cb,body,ce,els⟩ := x
 simp only [Stp.Ok] at hx
 simp only [Stp.wt] at hxw
 have e99 := fun m => f99 (u := u) g 1 12 m
 have e257 := fun m => f257 (u := u) g m
 have e258 := fun m => f258 (u := u) c hc ns d L hs hl cp hx.2.1 pl hx.2.2.1 (by omega) m
 have e259 := fun m => f259 (u := u) c hc ns d L hs nm hl m
 have e103s := fun m => f103 (u := u) c hc ns d L hs hl size hx.2.2.2.1.1 (by omega) m
 have e103t := fun m => f103 (u := u) c hc ns d L hs hl to hx.2.2.2.2.1.1 (by omega) m
 have e165 := fun m => f165 (u := u) c hc ns nm hl m
 have e260 := fun m => f260 (u := u) c hc ns d L hs nm hl m
 have e150 := fun m => f150 (u := u) cps hcps ps hps nm hpl m
 obtain ⟨nn,w,e',hf,h0,h5,hL,-⟩ := find_cases hs nm
 rw [hf] at e165
 simp only [Nme.av] at e165
 have hw : w = 0 \/ w = 1 \/ w = 2 \/ w = 3 \/ w = 4 \/ w = 5 := by omega
 simp only [stepE]
 have hpe : ∀ p,pl = [p] -> first (placeE L) pl = placeE L p := fun p hp => by subst hp; simp only [first]; split <;> simp_all
 generalize first (placeE L) pl = pe at *
 generalize newE L nm = ne at *
 generalize size.err (mayOf L) 1 = se at *
 generalize to.err (mayOf L) 1 = te at *
 obtain ⟨k1,n1,s1,c1,l1⟩ := size
 obtain ⟨k2,n2,s2,c2,l2⟩ := to
 simp only [Idx.av,prgAV] at *
 simp only [Stp.kind] at hk9
 subst hk9
 rcases procI_cases ps nm with ⟨h1,h2⟩ | ⟨n,q,h1,h2,h3,h4⟩
 ·rw [h1] at e150
  simp [Stp.av,Stp.cells,Idx.four,e150,h2]
 ·rw [h1] at e150
  have hn0 : ¬ (n : Int) < 0 := by omega
  by_cases ho : own <= n
  ·have ho' : (own : Int) <= (n : Int) := by omega
   simp [Stp.av,Stp.cells,Idx.four,e150,h2,hn0,ho,ho']
  ·have ho' : ¬ (own : Int) <= (n : Int) := by omega
   have h3' : ps[n] = q := by rw [List.getElem?_eq_getElem h4] at h3; simpa using h3
   by_cases hlq : pl.length = q.pars.length
   ·have : ((pl.length : Int) != (q.pars.length : Int)) = false := by simp; omega
    simp [Stp.av,Stp.cells,Idx.four,e150,h2,hn0,ho,ho',h3,h3',h4,Prc.av,this,hlq,e258]
   ·have : ((pl.length : Int) != (q.pars.length : Int)) = true := by simp; omega
    simp [Stp.av,Stp.cells,Idx.four,e150,h2,hn0,ho,ho',h3,h3',h4,Prc.av,this,hlq]
theorem f218_10 (cps : Cap) (hcps : okCap cps) (ps : List Prc) (hps : ∀ x ∈ ps,x.Ok) (hpl : ps.length < 1000000000000) (own : Nat) (x : Stp) (hx : x.Ok) (hxw : x.wt < 1000000000000)
  (c : Cap) (hc : okCap c) (ns : List Nme) (d : Int) (L : Look) (hs : RScope ns d L) (hl : ns.length < 1000000000000) (m : Mem) (hk10 : x.kind = 10) :
  cvl (C u) (.fn (.func 218) [] []) [prgAV cps ps,.int .i64 own,x.av,nmsAV c ns,.int .i64 d] m = some (.int .i64 (stepE ps own L x),m) := by
 refine call_runs (g := g218) (by rfl) (by rfl) (by rfl) ?_
 simp only [List.map_cons,List.map_nil,Stp.exp_av _ _ _ hx,exp_nms hc,exp_prg hcps hps]
 simp only [exp,g218,c218]
 obtain ⟨k,g,nm,cp,pl,size,to,cb,body,ce,els⟩ := x
 simp only [Stp.Ok] at hx
 simp only [Stp.wt] at hxw
 have e99 := fun m => f99 (u := u) g 1 12 m
 have e257 := fun m => f257 (u := u) g m
 have e258 := fun m => f258 (u := u) c hc ns d L hs hl cp hx.2.1 pl hx.2.2.1 (by omega) m
 have e259 := fun m => f259 (u := u) c hc ns d L hs nm hl m
 have e103s := fun m => f103 (u := u) c hc ns d L hs hl size hx.2.2.2.1.1 (by omega) m
 have e103t := fun m => f103 (u := u) c hc ns d L hs hl to hx.2.2.2.2.1.1 (by omega) m
 have e165 := fun m => f165 (u := u) c hc ns nm hl m
 have e260 := fun m => f260 (u := u) c hc ns d L hs nm hl m
 have e150 := fun m => f150 (u := u) cps hcps ps hps nm hpl m
 obtain ⟨nn,w,e',hf,h0,h5,hL,-⟩ := find_cases hs nm
 rw [hf] at e165
 simp only [Nme.av] at e165
 have hw : w = 0 \/ w = 1 \/ w = 2 \/ w = 3 \/ w = 4 \/ w = 5 := by omega
 simp only [stepE]
 have hpe : ∀ p,pl = [p] -> first (placeE L) pl = placeE L p := fun p hp => by subst hp; simp only [first]; split <;> simp_all
 generalize first (placeE L) pl = pe at *
 generalize newE L nm = ne at *
 generalize size.err (mayOf L) 1 = se at *
 generalize to.err (mayOf L) 1 = te at *
 obtain ⟨k1,n1,s1,c1,l1⟩ := size
 obtain ⟨k2,n2,s2,c2,l2⟩ := to
 simp only [Idx.av,prgAV] at *
 simp only [Stp.kind] at hk10
 subst hk10; simp [Stp.av,Stp.cells,Idx.four]
theorem f218_11 (cps : Cap) (hcps : okCap cps) (ps : List Prc) (hps : ∀ x ∈ ps,x.Ok) (hpl : ps.length < 1000000000000) (own : Nat) (x : Stp) (hx : x.Ok) (hxw : x.wt < 1000000000000)
  (c : Cap) (hc : okCap c) (ns : List Nme) (d : Int) (L : Look) (hs : RScope ns d L) (hl : ns.length < 1000000000000) (m : Mem) (hk11 : x.kind = 11) :
  cvl (C u) (.fn (.func 218) [] []) [prgAV cps ps,.int .i64 own,x.av,nmsAV c ns,.int .i64 d] m = some (.int .i64 (stepE ps own L x),m) := by
 refine call_runs (g := g218) (by rfl) (by rfl) (by rfl) ?_
 simp only [List.map_cons,List.map_nil,Stp.exp_av _ _ _ hx,exp_nms hc,exp_prg hcps hps]
 simp only [exp,g218,c218]
 obtain ⟨k,g,nm,cp,pl,size,to,cb,body,ce,els⟩ := x
 simp only [Stp.Ok] at hx
 simp only [Stp.wt] at hxw
 have e99 := fun m => f99 (u := u) g 1 12 m
 have e257 := fun m => f257 (u := u) g m
 have e258 := fun m => f258 (u := u) c hc ns d L hs hl cp hx.2.1 pl hx.2.2.1 (by omega) m
 have e259 := fun m => f259 (u := u) c hc ns d L hs nm hl m
 have e103s := fun m => f103 (u := u) c hc ns d L hs hl size hx.2.2.2.1.1 (by omega) m
 have e103t := fun m => f103 (u := u) c hc ns d L hs hl to hx.2.2.2.2.1.1 (by omega) m
 have e165 := fun m => f165 (u := u) c hc ns nm hl m
 have e260 := fun m => f260 (u := u) c hc ns d L hs nm hl m
 have e150 := fun m => f150 (u := u) cps hcps ps hps nm hpl m
 obtain ⟨nn,w,e',hf,h0,h5,hL,-⟩ := find_cases hs nm
 rw [hf] at e165
 simp only [Nme.av] at e165
 have hw : w = 0 \/ w = 1 \/ w = 2 \/ w = 3 \/ w = 4 \/ w = 5 := by omega
 simp only [stepE]
 have hpe : ∀ p,pl = [p] -> first (placeE L) pl = placeE L p := fun p hp => by subst hp; simp only [first]; split <;> simp_all
 generalize first (placeE L) pl = pe at *
 generalize newE L nm = ne at *
 generalize size.err (mayOf L) 1 = se at *
 generalize to.err (mayOf L) 1 = te at *
 obtain ⟨k1,n1,s1,c1,l1⟩ := size
 obtain ⟨k2,n2,s2,c2,l2⟩ := to
 simp only [Idx.av,prgAV] at *
 simp only [Stp.kind] at hk11
 subst hk11; simp [Stp.av,Stp.cells,Idx.four]
theorem f218_0 (cps : Cap) (hcps : okCap cps) (ps : List Prc) (hps : ∀ x ∈ ps,x.Ok) (hpl : ps.length < 1000000000000) (own : Nat) (x : Stp) (hx : x.Ok) (hxw : x.wt < 1000000000000)
  (c : Cap) (hc : okCap c) (ns : List Nme) (d : Int) (L : Look) (hs : RScope ns d L) (hl : ns.length < 1000000000000) (m : Mem) (hk : ¬ (x.kind = 1 \/ x.kind = 2 \/ x.kind = 3 \/ x.kind = 4 \/ x.kind = 5 \/ x.kind = 6 \/ x.kind = 7 \/ x.kind = 8 \/ x.kind = 9 \/ x.kind = 10 \/ x.kind = 11)) :
  cvl (C u) (.fn (.func 218) [] []) [prgAV cps ps,.int .i64 own,x.av,nmsAV c ns,.int .i64 d] m = some (.int .i64 (stepE ps own L x),m) := by
 refine call_runs (g := g218) (by rfl) (by rfl) (by rfl) ?_
 simp only [List.map_cons,List.map_nil,Stp.exp_av _ _ _ hx,exp_nms hc,exp_prg hcps hps]
 simp only [exp,g218,c218]
 obtain ⟨k,g,nm,cp,pl,size,to,cb,body,ce,els⟩ := x
 simp only [Stp.Ok] at hx
 simp only [Stp.wt] at hxw
 have e99 := fun m => f99 (u := u) g 1 12 m
 have e257 := fun m => f257 (u := u) g m
 have e258 := fun m => f258 (u := u) c hc ns d L hs hl cp hx.2.1 pl hx.2.2.1 (by omega) m
 have e259 := fun m => f259 (u := u) c hc ns d L hs nm hl m
 have e103s := fun m => f103 (u := u) c hc ns d L hs hl size hx.2.2.2.1.1 (by omega) m
 have e103t := fun m => f103 (u := u) c hc ns d L hs hl to hx.2.2.2.2.1.1 (by omega) m
 have e165 := fun m => f165 (u := u) c hc ns nm hl m
 have e260 := fun m => f260 (u := u) c hc ns d L hs nm hl m
 have e150 := fun m => f150 (u := u) cps hcps ps hps nm hpl m
 obtain ⟨nn,w,e',hf,h0,h5,hL,-⟩ := find_cases hs nm
 rw [hf] at e165
 simp only [Nme.av] at e165
 have hw : w = 0 \/ w = 1 \/ w = 2 \/ w = 3 \/ w = 4 \/ w = 5 := by omega
 simp only [stepE]
 have hpe : ∀ p,pl = [p] -> first (placeE L) pl = placeE L p := fun p hp => by subst hp; simp only [first]; split <;> simp_all
 generalize first (placeE L) pl = pe at *
 generalize newE L nm = ne at *
 generalize size.err (mayOf L) 1 = se at *
 generalize to.err (mayOf L) 1 = te at *
 obtain ⟨k1,n1,s1,c1,l1⟩ := size
 obtain ⟨k2,n2,s2,c2,l2⟩ := to
 simp only [Idx.av,prgAV] at *
 simp only [Stp.kind,not_or] at hk
 obtain ⟨hk1,h24,hk3,h44,hk5,hk6,hk7,hk8,hk9,hk10,hk11⟩ := hk
 simp [Stp.av,Stp.cells,Idx.four,ne_true hk1,ne_true h24,ne_true h44,ne_true hk3,ne_true hk5,ne_true hk6,ne_true hk7,ne_true hk8,ne_true hk9,ne_true hk10,ne_true hk11,hk1,h24,h44,hk3,hk5,hk6,hk7,hk8,hk9,hk10,hk11]
theorem f218 (cps : Cap) (hcps : okCap cps) (ps : List Prc) (hps : ∀ x ∈ ps,x.Ok) (hpl : ps.length < 1000000000000) (own : Nat) (x : Stp) (hx : x.Ok) (hxw : x.wt < 1000000000000)
  (c : Cap) (hc : okCap c) (ns : List Nme) (d : Int) (L : Look) (hs : RScope ns d L) (hl : ns.length < 1000000000000) (m : Mem) :
  cvl (C u) (.fn (.func 218) [] []) [prgAV cps ps,.int .i64 own,x.av,nmsAV c ns,.int .i64 d] m = some (.int .i64 (stepE ps own L x),m) := by
 by_cases h1 : x.kind = 1
 ·exact f218_1 cps hcps ps hps hpl own x hx hxw c hc ns d L hs hl m h1
 by_cases h24 : x.kind = 2 \/ x.kind = 4
 ·exact f218_24 cps hcps ps hps hpl own x hx hxw c hc ns d L hs hl m h24
 by_cases h3 : x.kind = 3
 ·exact f218_3 cps hcps ps hps hpl own x hx hxw c hc ns d L hs hl m h3
 by_cases h5 : x.kind = 5
 ·exact f218_5 cps hcps ps hps hpl own x hx hxw c hc ns d L hs hl m h5
 by_cases h6 : x.kind = 6
 ·exact f218_6 cps hcps ps hps hpl own x hx hxw c hc ns d L hs hl m h6
 by_cases h7 : x.kind = 7
 ·exact f218_7 cps hcps ps hps hpl own x hx hxw c hc ns d L hs hl m h7
 by_cases h8 : x.kind = 8
 ·exact f218_8 cps hcps ps hps hpl own x hx hxw c hc ns d L hs hl m h8
 by_cases h9 : x.kind = 9
 ·exact f218_9 cps hcps ps hps hpl own x hx hxw c hc ns d L hs hl m h9
 by_cases h10 : x.kind = 10
 ·exact f218_10 cps hcps ps hps hpl own x hx hxw c hc ns d L hs hl m h10
 by_cases h11 : x.kind = 11
 ·exact f218_11 cps hcps ps hps hpl own x hx hxw c hc ns d L hs hl m h11
 exact f218_0 cps hcps ps hps hpl own x hx hxw c hc ns d L hs hl m (by omega)
end Go.Abs.Tz
