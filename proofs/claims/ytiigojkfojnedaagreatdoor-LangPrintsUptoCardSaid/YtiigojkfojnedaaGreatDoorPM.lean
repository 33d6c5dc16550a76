/- A text of this proof. -/
import Derived.Test.YtiigojkfojnedaaGreatDoorPL
set_option linter.unusedVariables false
set_option linter.unusedSimpArgs false
namespace Go.Abs
section
variable {P : Program} {base : Nat} {LC : LCR} {g : Gh} {lb : LB} {own : OW} {loc : Nat -> Option (Nat × Blk)} {mem : Mem} {w : World} {esc : Nat -> Bool} {callv : CallV}
variable {ev : Opd -> AV} {a : Act} {o : Oper} {ao : AO} {v : AV} {u : Upd} {m' : Mem}
theorem vr_int {k : IntKind} {n : Int} {x : Value} (h : VR g lb (.int k n) x) : x = .int k n := by cases h; rfl
theorem op_index (hev : EvOK g lb ev a) (hm : MemR g own LC mem w) (hl : LocR g lb own loc w) (ho : OwnR base own w) {t : TypeId} {x i : Operand} (hop : o.op = .indexAddr t x i)
  (hc : copO P esc o = some ao) (hr : aop ev loc mem callv o.dst ao = some (v,u,m')) : OpOK P base LC g lb own loc w a o v u m' := by
 simp only [copO,hop] at hc
 split at hc
 ·rename_i e x' i' hu hx hi
  simp only [Option.map_eq_some_iff] at hc
  obtain ⟨sz,hsz,rfl⟩ := hc
  simp only [aop] at hr
  split at hr
  ·rename_i c l k n e1 e2
   split at hr
   ·rename_i hb
    split at hr
    ·rename_i el hel
     split at hr
     ·rename_i hes
      simp only [Option.some.injEq,Prod.mk.injEq] at hr
      obtain ⟨rfl,rfl,rfl⟩ := hr
      have k1 := hev _ _ hx
      have k2 := hev _ _ hi
      rw [e1] at k1; rw [e2] at k2
      obtain ⟨s1,s2,-⟩ := tySz_spec (P := P) (w := w) hsz
      have hne : l ≠ [] := by rintro rfl; simp at hb; omega
      cases hxe : a.eval x <;> rw [hxe] at k1 <;> (try (cases k1; done))
      cases k1 with
      | listNil => exact absurd rfl hne
      | listE => exact absurd rfl hne
      | list _ _ _ b off sz' nn cap xs hn hcap hcc hsz' him hv =>
       have hlt : n.toNat < l.length := by omega
       have hel' : l[n.toNat] = el := by rw [List.getElem?_eq_getElem hlt] at hel; exact Option.some.inj hel
       have hszz : sz' = sz := by rw [<- hsz' _ (List.getElem_mem hlt),hel',hes]
       subst hszz
       refine .pure hm hl ho (x := .pointer (some ⟨b,off + n.toNat * sz',none⟩)) ?_ ?_
       ·simp only [execOp,hop,hxe,vr_int k2,Sem.run_bind,Instr.indexAt,asIntOf,Sem.run_pure,Result.andThen_ok,run_underlying hu]
        rw [if_pos (by rw [<- hn]; exact hb)]
        simp only [Sem.run_bind,s1,Result.andThen_ok,Sem.run_pure,Addr.add_mid]
       ·refine .ref _ _ b (off + n.toNat * sz') (fun j => xs n.toNat j) (fun j hj => ?_) (fun j hj => ?_)
        ·have := him n.toNat (by omega) j (by omega)
         rwa [Nat.add_assoc]
        ·have := hv n.toNat hlt j (by rw [hel']; exact hj)
         simpa only [hel'] using this
     ·cases hr
    ·cases hr
   ·cases hr
  ·rename_i id off m cp k n e1 e2
   split at hr
   ·rename_i hb
    simp only [Option.some.injEq,Prod.mk.injEq] at hr
    obtain ⟨rfl,rfl,rfl⟩ := hr
    have k1 := hev _ _ hx
    have k2 := hev _ _ hi
    rw [e1] at k1; rw [e2] at k2
    obtain ⟨s1,s2,-⟩ := tySz_spec (P := P) (w := w) hsz
    cases hxe : a.eval x <;> rw [hxe] at k1 <;> (try (cases k1; done))
    cases k1 with
    | sl _ _ _ _ _ _ b hc hb' =>
     refine .pure hm hl ho (x := .pointer (some ⟨b,off + n.toNat * sz,none⟩)) ?_ (.gptr _ _ _ b hb')
     simp only [execOp,hop,hxe,vr_int k2,Sem.run_bind,Instr.indexAt,asIntOf,Sem.run_pure,Result.andThen_ok,run_underlying hu]
     rw [if_pos hb]
     simp only [Sem.run_bind,s1,Result.andThen_ok,Sem.run_pure,Addr.add_mid]
   ·cases hr
  ·cases hr
 ·rename_i len e x' i' hu hx hi
  simp only [Option.map_eq_some_iff] at hc
  obtain ⟨sz,hsz,rfl⟩ := hc
  simp only [aop] at hr
  split at hr
  ·rename_i k n e2
   split at hr
   ·rename_i hb
    simp only [Option.map_eq_some_iff,Prod.mk.injEq] at hr
    obtain ⟨r,hr,rfl,rfl,rfl⟩ := hr
    have k2 := hev _ _ hi
    rw [e2] at k2
    obtain ⟨ad,k1,k3⟩ := padd_spec (hev _ _ hx) hr
    obtain ⟨s1,s2,-⟩ := tySz_spec (P := P) (w := w) hsz
    refine .pure hm hl ho ?_ k3
    simp only [execOp,hop,k1,vr_int k2,Sem.run_bind,Instr.indexAt,asIntOf,Sem.run_pure,Result.andThen_ok,run_underlying hu,Instr.sureAddr]
    rw [if_pos hb]
    simp only [Sem.run_bind,s1,Result.andThen_ok,Sem.run_pure]
   ·cases hr
  ·cases hr
 ·cases hc
theorem op_ix (hev : EvOK g lb ev a) (hm : MemR g own LC mem w) (hl : LocR g lb own loc w) (ho : OwnR base own w) {t : TypeId} {x i : Operand} (hop : o.op = .index t x i)
  (hc : copO P esc o = some ao) (hr : aop ev loc mem callv o.dst ao = some (v,u,m')) : OpOK P base LC g lb own loc w a o v u m' := by
 simp only [copO,hop] at hc
 split at hc
 ·rename_i len e x' i' hu hx hi
  split at hc
  ·rename_i sz ag hsz hag
   cases hc
   simp only [aop] at hr
   split at hr
   ·rename_i l k n e1 e2
    split at hr
    ·rename_i hb
     obtain ⟨hb1,hb2,hb3⟩ := hb
     simp only [Option.map_eq_some_iff,Prod.mk.injEq] at hr
     obtain ⟨r,hr,rfl,rfl,rfl⟩ := hr
     have k1 := hev _ _ hx
     have k2 := hev _ _ hi
     rw [e1] at k1; rw [e2] at k2
     obtain ⟨s1,s2,-⟩ := tySz_spec (P := P) (w := w) hsz
     cases hxe : a.eval x <;> rw [hxe] at k1 <;> (try (cases k1; done))
     have hle : n.toNat * sz + sz <= l.length := by
      rw [hb3]
      have : (n.toNat + 1) * sz <= len * sz := Nat.mul_le_mul_right _ (by omega)
      rw [Nat.add_mul] at this; omega
     obtain ⟨z,q1,q2⟩ := part_spec (P := P) (w := w) k1 hle (tyAg_spec hag) s1 hr
     refine .pure hm hl ho ?_ q2
     simp only [execOp,hop,hxe,vr_int k2,Sem.run_bind,Instr.index,asIntOf,Sem.run_pure,Result.andThen_ok,run_underlying hu]
     rw [if_pos ⟨hb1,hb2⟩]
     simp only [Sem.run_bind,s1,Result.andThen_ok,q1]
    ·cases hr
   ·cases hr
  ·cases hc
 ·rename_i x' i' hu hx hi
  cases hc
  simp only [aop] at hr
  split at hr
  ·rename_i s k n e1 e2
   split at hr
   ·rename_i hb
    simp only [Option.map_eq_some_iff,Prod.mk.injEq] at hr
    obtain ⟨r,hr,rfl,rfl,rfl⟩ := hr
    have k1 := hev _ _ hx
    have k2 := hev _ _ hi
    rw [e1] at k1; rw [e2] at k2
    cases hxe : a.eval x <;> rw [hxe] at k1 <;> cases k1
    rename_i bs hbs
    obtain ⟨c,hgb,hcr⟩ : ∃ c : UInt8,bs[n.toNat]? = some c /\ c.toNat = r := by
     rw [<- hbs] at hr
     simp only [List.getElem?_map,Option.map_eq_some_iff] at hr
     obtain ⟨c,hc,rfl⟩ := hr
     have hlt := (List.getElem?_eq_some_iff.1 hc).1
     have hlt' : n.toNat < bs.size := by simpa using hlt
     refine ⟨c,?_,rfl⟩
     have h1 : bs[n.toNat]? = some (bs[n.toNat]'hlt') := by simp [getElem?_pos,hlt']
     rw [h1]
     have h2 : bs.data.toList[n.toNat]? = some (bs[n.toNat]'hlt') := by
      rw [List.getElem?_eq_getElem hlt]; rfl
     rw [h2] at hc; exact hc
    refine .pure hm hl ho (x := .int .u8 (Int.ofNat r)) ?_ (.int _ _ _)
    simp only [execOp,hop,hxe,vr_int k2,Sem.run_bind,Instr.index,asIntOf,Sem.run_pure,Result.andThen_ok,run_underlying hu,if_pos hb,hgb,hcr]
    rfl
   ·cases hr
  ·cases hr
 ·cases hc
theorem bound_spec (hev : EvOK g lb ev a) {x : Option Operand} {x' : Option Opd} (h : cOpt x = some x') {top dflt r : Nat} (hb : bound ev top x' dflt = some r) :
  (x = none /\ r = dflt) \/ (∃ y k n,x = some y /\ a.eval y = .int k n /\ 0 <= n /\ n <= top /\ r = n.toNat) := by
 cases x with
 | none => cases h; cases hb; exact .inl ⟨rfl,rfl⟩
 | some y =>
  simp only [cOpt,Option.map_eq_some_iff] at h
  obtain ⟨y',hy,rfl⟩ := h
  simp only [bound] at hb
  split at hb
  ·rename_i k n he
   split at hb
   ·rename_i hc; cases hb
    have := hev _ _ hy
    rw [he] at this
    exact .inr ⟨y,k,n,rfl,vr_int this,hc.1,hc.2,rfl⟩
   ·cases hb
  ·cases hb
theorem run_sliceBound {k : IntKind} {n : Int} {top : Nat} {code : BoundsCode} (h0 : 0 <= n) (h1 : n <= top) : (Instr.sliceBound (.int k n) top code).run P w = .ok n.toNat w := by
 simp only [Instr.sliceBound,asIntOf,Sem.run_bind,Sem.run_pure,Result.andThen_ok]
 rw [if_pos ⟨h0,h1⟩]; rfl
theorem op_slc (hev : EvOK g lb ev a) (hm : MemR g own LC mem w) (hl : LocR g lb own loc w) (ho : OwnR base own w) {t : TypeId} {x : Operand} {lo hi mx : Option Operand} (hop : o.op = .slice t x lo hi mx)
  (hc : copO P esc o = some ao) (hr : aop ev loc mem callv o.dst ao = some (v,u,m')) : OpOK P base LC g lb own loc w a o v u m' := by
 simp only [copO,hop] at hc
 split at hc
 ·rename_i e x' lo' hi' mx' hu hx hlo hhi hmx
  split at hc
  ·cases hc
  ·rename_i hmh
   simp only [Option.map_eq_some_iff] at hc
   obtain ⟨sz,hsz,rfl⟩ := hc
   obtain ⟨s1,s2,-⟩ := tySz_spec (P := P) (w := w) hsz
   simp only [aop] at hr
   split at hr
   ·rename_i c l he
    split at hr
    ·rename_i hall
     simp only [List.all_eq_true,decide_eq_true_eq] at hall
     split at hr
     ·rename_i m hbm
      split at hr
      ·rename_i h hbh
       split at hr
       ·rename_i b hbl
        simp only [Option.some.injEq,Prod.mk.injEq] at hr
        obtain ⟨rfl,rfl,rfl⟩ := hr
        have k1 := hev _ _ hx
        rw [he] at k1
        have q1 := bound_spec hev hmx hbm
        have q2 := bound_spec hev hhi hbh
        have q3 := bound_spec hev hlo hbl
        have hml : m <= l.length := by rcases q1 with ⟨_,h⟩ | ⟨_,_,n,_,_,_,h,h'⟩ <;> omega
        have hhm : h <= m := by
         rcases q2 with ⟨hh,h⟩ | ⟨_,_,n,_,_,_,h,h'⟩
         ·rcases q1 with ⟨_,h1⟩ | ⟨y,_,_,hy,_⟩
          ·omega
          ·exfalso; subst hh; subst hy
           simp only [cOpt,Option.map_eq_some_iff] at hmx hhi
           obtain ⟨_,_,rfl⟩ := hmx
           cases hhi
           exact hmh rfl
         ·omega
        have hbh' : b <= h := by rcases q3 with ⟨_,h⟩ | ⟨_,_,n,_,_,_,h,h'⟩ <;> omega
        obtain ⟨A,cap,hxe,hcap,hcfull,hflat⟩ : ∃ A cap,a.eval x = .slice A l.length cap /\ l.length <= cap /\ (c = .full -> cap = l.length) ∧
          (l = [] \/ ∃ bb oo vs,A = some ⟨bb,oo,none⟩ /\ FR g noLB sz l vs /\ ∀ q v,vs[q]? = some v -> g.im bb (oo + q) = some v) := by
         by_cases hle : l = []
         ·subst hle
          generalize a.eval x = xv at k1
          cases k1 with
          | listNil => exact ⟨none,0,rfl,Nat.le_refl _,fun _ => rfl,.inl rfl⟩
          | listE _ _ ad cap hc =>
           refine ⟨_,cap,rfl,Nat.zero_le _,fun h => ?_,.inl rfl⟩
           rcases hc with hc | ⟨_,hc⟩
           ·rw [hc] at h; cases h
           ·exact hc
          | list _ _ _ bb oo sz' nn cap xs hn hcap hcc => simp at hn; subst hn; exact ⟨_,cap,rfl,hcap,fun h => (by subst h; exact hcc),.inl rfl⟩
         ·obtain ⟨bb,oo,cap,vs,f1,f2,f3,f4,f5⟩ := k1.flat hall hle
          exact ⟨_,cap,f1,f2,fun h => (by subst h; exact f3),.inr ⟨bb,oo,vs,rfl,f4,f5⟩⟩
        have hbounds : ∃ M,(Instr.sliceBounds true l.length cap (lo.map a.eval) (hi.map a.eval) (mx.map a.eval)).run P w = .ok (b,h,M) w /\ h <= M /\ (mx.isSome = true -> M = m) /\ (mx = none -> M = cap) := by
         rcases q1 with ⟨rfl,hm1⟩ | ⟨ym,km,nm,rfl,hym,hm0,hm1,hm2⟩
         ·refine ⟨cap,?_,by omega,fun h => (by cases h),fun _ => rfl⟩
          rcases q2 with ⟨rfl,hh1⟩ | ⟨yh,kh,nh,rfl,hyh,hh0,hh1,hh2⟩
          ·rcases q3 with ⟨rfl,hb1⟩ | ⟨yb,kb,nb,rfl,hyb,hb0,hb1,hb2⟩
           ·subst hb1 hh1; simp [Instr.sliceBounds]
           ·subst hb2 hh1; simp [Instr.sliceBounds,hyb,run_sliceBound hb0 hb1]
          ·have hb : (Instr.sliceBound (.int kh nh) cap .sliceAcap).run P w = .ok nh.toNat w := run_sliceBound hh0 (by omega)
           rcases q3 with ⟨rfl,hb1⟩ | ⟨yb,kb,nb,rfl,hyb,hb0,hb1,hb2⟩
           ·subst hb1 hh2; simp [Instr.sliceBounds,hyh,hb]
           ·subst hb2 hh2; simp [Instr.sliceBounds,hyh,hyb,hb,run_sliceBound hb0 hb1]
         ·have hbm' : (Instr.sliceBound (.int km nm) cap .slice3Acap).run P w = .ok m w := by rw [hm2]; exact run_sliceBound hm0 (by omega)
          refine ⟨m,?_,hhm,fun _ => rfl,fun h => (by cases h)⟩
          rcases q2 with ⟨rfl,hh1⟩ | ⟨yh,kh,nh,rfl,hyh,hh0,hh1,hh2⟩
          ·exfalso
           simp only [cOpt,Option.map_eq_some_iff] at hmx hhi
           obtain ⟨_,_,rfl⟩ := hmx
           cases hhi
           exact hmh rfl
          ·have hbh2 : (Instr.sliceBound (.int kh nh) m .slice3B).run P w = .ok h w := by rw [hh2]; exact run_sliceBound hh0 hh1
           rcases q3 with ⟨rfl,hb1⟩ | ⟨yb,kb,nb,rfl,hyb,hb0,hb1,hb2⟩
           ·subst hb1; simp [Instr.sliceBounds,hym,hyh,hbm',hbh2]
           ·have : (Instr.sliceBound (.int kb nb) h .slice3C).run P w = .ok b w := by rw [hb2]; exact run_sliceBound hb0 hb1
            simp [Instr.sliceBounds,hym,hyh,hyb,hbm',hbh2,this]
        obtain ⟨M,hsb,hhM,hM1,hM2⟩ := hbounds
        have hrun : (execOp a.eval o).run P w = .ok (.value (.slice (if M = b then A else A.map (·.add (b * sz))) (h - b) (M - b))) w := by
         simp only [execOp,hop,hxe,Instr.sliceAt,Instr.slice,Sem.run_bind,run_underlying hu,Result.andThen_ok,hsb,s1,Sem.run_pure]
        refine .pure hm hl ho hrun ?_
        have hlen : ((l.take h).drop b).length = h - b := by simp; omega
        have hcapc : ∀ bb oo,capOK g (h - b) bb oo (M - b) (if mx'.isSome = true then (if m = h then Cap.full else .any) else if c = .full /\ h = l.length then .full else .any) := by
         intro bb oo
         split
         ·rename_i hs
          have hs' : mx.isSome = true := by
           cases mx with
           | none => cases hmx; cases hs
           | some _ => rfl
          split
          ·have := hM1 hs'; simp only [capOK]; omega
          ·trivial
         ·rename_i hs
          have hs' : mx = none := by
           cases mx with
           | none => rfl
           | some _ => simp only [cOpt,Option.map_eq_some_iff] at hmx; obtain ⟨_,_,rfl⟩ := hmx; exact absurd rfl hs
          split
          ·rename_i hf
           have := hM2 hs'; have := hcfull hf.1; simp only [capOK]; omega
          ·trivial
        have hnown : ∀ tg,(if mx'.isSome = true then (if m = h then Cap.full else .any) else if c = .full /\ h = l.length then .full else .any) ≠ .own tg := by
         intro tg; (repeat' split) <;> simp
        have hcn : ∀ A',A = some A' -> c ≠ .nil := by
         intro A' hA' hc
         subst hA' hc
         rw [hxe] at k1
         cases k1 with
         | listE _ _ ad cap hc => rcases hc with hc | ⟨hc,_⟩ <;> cases hc
         | list _ _ _ bb oo sz' nn cap' xs hn hcap' hcc => exact hcc
        rcases hflat with rfl | ⟨bb,oo,vs,rfl,hfr,him⟩
        ·have hb0 : b = 0 := by simp at hml; omega
         have hh0 : h = 0 := by simp at hml; omega
         subst hb0 hh0
         simp only [List.take_nil,List.drop_nil,Nat.zero_mul,Nat.sub_zero]
         have hA : (if M = 0 then A else A.map (·.add 0)) = A := by
          split
          ·rfl
          ·cases A <;> simp [Addr.add]
         rw [hA]
         cases hxk : A with
         | none =>
          rw [hxe,hxk] at k1
          have hMc : M = 0 := by
           cases k1 with
           | listNil =>
            cases mx with
            | none => exact hM2 rfl
            | some _ => have := hM1 rfl; simp at hml; omega
          subst hMc
          have hcnil : c = .nil := by cases k1; rfl
          rw [if_pos hcnil]
          exact .listNil _
         | some A' =>
          have hcn' := hcn A' hxk
          rw [if_neg hcn']
          rw [hxe,hxk] at k1
          cases k1 with
          | listE _ _ ad cap hc =>
           refine .listE _ _ _ _ ?_
           have hq := hcapc 0 0
           have hnw := hnown
           generalize (if mx'.isSome = true then (if m = 0 then Cap.full else .any) else if c = .full /\ 0 = ([] : List AV).length then .full else .any) = cc at hq hnw ⊢
           cases cc with
           | any => exact .inl rfl
           | nil => exact hq.elim
           | own tg => exact absurd rfl (hnw tg)
           | full => exact .inr ⟨rfl,by simpa [capOK] using hq⟩
          | list _ _ _ bb oo sz' nn cap' xs hn hcap' hcc => exact .list _ _ [] bb oo sz 0 _ (fun _ _ => undef) rfl (Nat.zero_le _) (by have := hcapc bb oo; simpa using this) (by simp) (fun i hi => by omega) (fun i hi => by simp at hi)
        ·rw [if_neg (hcn _ rfl)]
         by_cases hbh0 : h - b = 0
         ·have hnil : (l.take h).drop b = [] := List.eq_nil_of_length_eq_zero (by omega)
          rw [hnil,hbh0]
          have hA : ∃ o2,(if M = b then some (⟨bb,oo,none⟩ : Addr) else (some (⟨bb,oo,none⟩ : Addr)).map (·.add (b * sz))) = some ⟨bb,o2,none⟩ := by
           split
           ·exact ⟨_,rfl⟩
           ·exact ⟨oo + b * sz,by simp [Addr.add_mid]⟩
          obtain ⟨o2,hA⟩ := hA
          rw [hA]
          exact .list _ _ [] bb o2 sz 0 _ (fun _ _ => undef) rfl (Nat.zero_le _) (by have := hcapc bb o2; rwa [hbh0] at this) (by simp) (fun i hi => by omega) (fun i hi => by simp at hi)
         ·have hMb : ¬ M = b := by omega
          simp only [if_neg hMb,Option.map_some,Addr.add_mid]
          have hfr2 : FR g noLB sz ((l.take h).drop b) ((vs.take (h * sz)).drop (b * sz)) := by
           have hvl := hfr.1
           have hle : h * sz <= l.length * sz := Nat.mul_le_mul_right _ (by omega)
           have hbz : b * sz <= h * sz := Nat.mul_le_mul_right _ hbh'
           refine ⟨?_,fun e he => hfr.2.1 e (List.mem_of_mem_take (List.mem_of_mem_drop he)),fun v hv => hfr.2.2.1 v (List.mem_of_mem_take (List.mem_of_mem_drop hv)),fun i hi j hj hij => ?_⟩
           ·rw [hlen,Nat.sub_mul]; simp; omega
           ·have hi' : b + i < l.length := by rw [hlen] at hi; omega
            have he1 : ((l.take h).drop b)[i] = l[b + i] := by simp
            have hj' : j < l[b + i].cells.length := by rw [<- he1]; exact hj
            have hjs : j < sz := by rw [<- hfr.2.1 _ (List.getElem_mem hi')]; exact hj'
            have hidx : b * sz + (i * sz + j) = (b + i) * sz + j := by rw [Nat.add_mul]; omega
            have := hfr.2.2.2 (b + i) hi' j hj' (by rw [hvl]; exact idx_lt hi' hjs)
            simp only [List.getElem_drop,List.getElem_take,hidx]
            simpa only [he1] using this
          refine VR.ofFlat hfr2 hlen (by omega) (hcapc _ _) (fun q v hq => ?_)
          have hq' : vs[b * sz + q]? = some v := by
           rw [List.getElem?_drop] at hq
           rw [List.getElem?_take] at hq
           split at hq
           ·exact hq
           ·cases hq
          have := him _ _ hq'
          rwa [<- Nat.add_assoc] at this
       ·cases hr
      ·cases hr
     ·cases hr
    ·cases hr
   ·cases hr
 ·rename_i x' lo' hi' hu hx hlo hhi hmx
  cases hc
  have hmn : mx = none := by
   cases mx with
   | none => rfl
   | some _ => simp only [cOpt,Option.map_eq_some_iff] at hmx; obtain ⟨_,_,h⟩ := hmx; cases h
  subst hmn
  simp only [aop] at hr
  split at hr
  ·rename_i s he
   split at hr
   ·rename_i h hbh
    split at hr
    ·rename_i b hbl
     simp only [Option.some.injEq,Prod.mk.injEq] at hr
     obtain ⟨rfl,rfl,rfl⟩ := hr
     have k1 := hev _ _ hx
     rw [he] at k1
     have q2 := bound_spec hev hhi hbh
     have q3 := bound_spec hev hlo hbl
     cases hxe : a.eval x <;> rw [hxe] at k1 <;> cases k1
     rename_i bs hbs
     have hsl := str_len hbs
     have hsb : (Instr.sliceBounds false bs.size bs.size (lo.map a.eval) (hi.map a.eval) none).run P w = .ok (b,h,bs.size) w := by
      rcases q2 with ⟨rfl,hh1⟩ | ⟨yh,kh,nh,rfl,hyh,hh0,hh1,hh2⟩
      ·rcases q3 with ⟨rfl,hb1⟩ | ⟨yb,kb,nb,rfl,hyb,hb0,hb1,hb2⟩
       ·subst hb1 hh1; simp [Instr.sliceBounds,hsl]
       ·subst hb2 hh1; simp [Instr.sliceBounds,hyb,run_sliceBound hb0 hb1,hsl]
      ·rw [<- hsl] at hh1
       have hb' : (Instr.sliceBound (.int kh nh) bs.size .sliceAlen).run P w = .ok nh.toNat w := run_sliceBound hh0 hh1
       rcases q3 with ⟨rfl,hb1⟩ | ⟨yb,kb,nb,rfl,hyb,hb0,hb1,hb2⟩
       ·subst hb1 hh2; simp [Instr.sliceBounds,hyh,hb']
       ·subst hb2 hh2; simp [Instr.sliceBounds,hyh,hyb,hb',run_sliceBound hb0 hb1]
     refine .pure hm hl ho (x := .string (bs.extract b h)) ?_ (.str _ _ _ ?_)
     ·simp only [execOp,hop,hxe,Instr.sliceAt,Instr.slice,Sem.run_bind,run_underlying hu,Result.andThen_ok,Option.map_none,Option.isSome_none,Bool.false_eq_true,if_false,hsb,Sem.run_pure]
     ·rw [<- hbs,<- List.map_take,<- List.map_drop]
      congr 1
      simp [ByteArray.data_extract,Array.toList_extract,List.extract_eq_take_drop,List.drop_take]
    ·cases hr
   ·cases hr
  ·cases hr
 ·cases hc
theorem op_ext (hev : EvOK g lb ev a) (hm : MemR g own LC mem w) (hl : LocR g lb own loc w) (ho : OwnR base own w) {x : Operand} {k : Nat} (hop : o.op = .extract x k)
  (hc : copO P esc o = some ao) (hr : aop ev loc mem callv o.dst ao = some (v,u,m')) : OpOK P base LC g lb own loc w a o v u m' := by
 simp only [copO,hop,Option.map_eq_some_iff] at hc
 obtain ⟨x',hx,rfl⟩ := hc
 simp only [aop] at hr
 split at hr
 ·rename_i l he
  simp only [Option.map_eq_some_iff,Prod.mk.injEq] at hr
  obtain ⟨r,hr,rfl,rfl,rfl⟩ := hr
  have k1 := hev _ _ hx
  rw [he] at k1
  obtain ⟨hlt,rfl⟩ := List.getElem?_eq_some_iff.1 hr
  obtain ⟨xv,hxe⟩ : ∃ xv,a.eval x = xv := ⟨_,rfl⟩
  rw [hxe] at k1
  cases k1 with
  | tup _ _ b hs hv =>
   have hk : k < b.size := by omega
   refine .pure hm hl ho ?_ (hv k hlt hk)
   simp only [execOp,hop,hxe,Instr.extract,Array.getElem?_eq_getElem hk]; rfl
 ·cases hr
theorem op_alloc (hm : MemR g own LC mem w) (hl : LocR g lb own loc w) (ho : OwnR base own w) {e : TypeId} (hop : o.op = .alloc e)
  (hc : copO P esc o = some ao) (hr : aop ev loc mem callv o.dst ao = some (v,u,m')) : OpOK P base LC g lb own loc w a o v u m' := by
 simp only [copO,hop] at hc
 split at hc
 ·rename_i d z hd hz
  obtain ⟨zv,i,hi,hz1,hz2,hzs,hzl,h0,hpw,h1⟩ := tyZero_spec (P := P) (g := g) (lb := lb) (w := w) hz
  split at hc
  ·rename_i be hbe
   cases hc
   simp only [aop,Option.some.injEq,Prod.mk.injEq] at hr
   obtain ⟨rfl,rfl,rfl⟩ := hr
   have hb : tyBld P e = some be := by
    split at hbe
    ·exact hbe
    ·cases hbe
   have hzv : zv = .agg #[.pointer none,.slice none 0 0] := by
    unfold tyBld at hb
    rw [hi] at hb
    simp only [hz1] at hb
    split at hb
    ·rename_i h2 _; cases h2; rfl
    ·cases hb
   subst hzv
   exact ⟨_,_,.inl (by simp only [execOp,hop,Instr.alloc,Sem.run_bind,hz2,Result.andThen_ok,Sem.run_pure]; rfl),newBld_spec hm hl ho⟩
  cases hc
  simp only [aop] at hr
  refine ⟨_,_,.inl ?_,newVar_spec (e := e) hm hl ho (cs := zv.cells) (by rw [hzs,hzl]) (fun j hj hj' => by have := hpw.2 j hj (by simpa using hj'); rwa [Array.getElem_toList] at this)
   (fun j hj => h1 _ (by simp)) hr⟩
  simp only [execOp,hop,Instr.alloc,Sem.run_bind,hz2,Result.andThen_ok,Sem.run_pure]; rfl
 ·cases hc
theorem op_box (hev : EvOK g lb ev a) (hm : MemR g own LC mem w) (hl : LocR g lb own loc w) (ho : OwnR base own w) {e : TypeId} {x : Operand} (hop : o.op = .box e x)
  (hc : copO P esc o = some ao) (hr : aop ev loc mem callv o.dst ao = some (v,u,m')) : OpOK P base LC g lb own loc w a o v u m' := by
 simp only [copO,hop] at hc
 split at hc
 ·rename_i d n x' hd hn hx
  cases hc
  simp only [aop] at hr
  split at hr
  ·rename_i hlen
   obtain ⟨s1,s2,-⟩ := tySz_spec (P := P) (w := w) hn
   obtain ⟨hpw,h1⟩ := pw_cells (hev _ _ hx) (by omega)
   refine ⟨_,_,.inl ?_,newVar_spec (e := e) hm hl ho (cs := (a.eval x).cells) (by simpa using hpw.1.symm) (fun j hj hj' => by have := hpw.2 j hj (by simpa using hj'); rwa [Array.getElem_toList] at this)
    (fun j hj => h1 _ (by simp)) hr⟩
   simp only [execOp,hop,Instr.box,Sem.run_bind,Result.andThen_ok,Go.newVar,newRow,run_newObj,Sem.run_pure]; rfl
  ·cases hr
 ·cases hc
theorem op_ld (hev : EvOK g lb ev a) (hm : MemR g own LC mem w) (hl : LocR g lb own loc w) (ho : OwnR base own w) {t : TypeId} {x : Operand} (hop : o.op = .load t x)
  (hc : copO P esc o = some ao) (hr : aop ev loc mem callv o.dst ao = some (v,u,m')) : OpOK P base LC g lb own loc w a o v u m' := by
 simp only [copO,hop] at hc
 split at hc
 ·rename_i ag n x' hag hn hx
  cases hc
  simp only [aop] at hr
  split at hr
  ·rename_i cs hrd
   simp only [Option.map_eq_some_iff,Prod.mk.injEq] at hr
   obtain ⟨r,hr,rfl,rfl,rfl⟩ := hr
   obtain ⟨b,off,vs,e1,e2,e3,e4,e5,e6⟩ := rd_spec hm hl (hev _ _ hx) hrd
   obtain ⟨s1,s2,s3⟩ := tySz_spec (P := P) (w := w) hn
   have hag' := tyAg_spec (w := w) hag
   obtain ⟨k1,k2⟩ := asElem_spec (a := vs.toArray) (g := g) (lb := lb) ⟨by simp; omega,fun i hi hi' => e5 i hi (by simpa using hi')⟩ (by simpa using e6) hr
   have hcell : ∀ j v,vs[j]? = some v -> w.cell? ((⟨b,off,none⟩ : Addr).add j) = some v := fun j v hj => by rw [Addr.add_mid]; exact e4 j v hj
   cases ag with
   | true =>
    refine .pure hm hl ho ?_ (k1 rfl)
    have hload := run_loadCells_list (P := P) w ⟨b,off,none⟩ vs hcell
    simp only [execOp,hop,e1,Instr.loadAt,Instr.sureAddr,Sem.run_bind,Sem.run_pure,Result.andThen_ok,loadVar,hag',if_true,s1]
    rw [<- e2]
    simp only [hload,Result.andThen_ok]
   | false =>
    obtain ⟨z,hz,hvr⟩ := k2 rfl
    have hvs : vs = [z] := by simpa using hz
    subst hvs
    have h0 : w.cell? ⟨b,off,none⟩ = some z := by simpa using e4 0 z (by simp)
    refine .pure hm hl ho ?_ hvr
    simp only [execOp,hop,e1,Instr.loadAt,Instr.sureAddr,Sem.run_bind,Sem.run_pure,Result.andThen_ok,loadVar,hag',Bool.false_eq_true,if_false,run_load,h0]
  ·cases hr
 ·cases hc
theorem op_st (hev : EvOK g lb ev a) (hm : MemR g own LC mem w) (hl : LocR g lb own loc w) (ho : OwnR base own w) {t : TypeId} {x y : Operand} (hop : o.op = .store t x y)
  (hc : copO P esc o = some ao) (hr : aop ev loc mem callv o.dst ao = some (v,u,m')) : OpOK P base LC g lb own loc w a o v u m' := by
 simp only [copO,hop] at hc
 split at hc
 ·rename_i n x' y' hn hx hy
  cases hc
  simp only [aop] at hr
  split at hr
  ·rename_i hlen
   simp only [Option.map_eq_some_iff,Prod.mk.injEq,Prod.exists] at hr
   obtain ⟨u1,m1,hw,rfl,rfl,rfl⟩ := hr
   obtain ⟨s1,s2,-⟩ := tySz_spec (P := P) (w := w) hn
   obtain ⟨hpw,h1⟩ := pw_cells (hev _ _ hy) (by omega)
   obtain ⟨b,off,cur,e,e1,e2,e3,e4⟩ := wr_spec hm hl ho (hev _ _ hx) hpw h1 hw
   refine ⟨undef,_,.inr ⟨?_,rfl⟩,e4⟩
   have hsz : (a.eval y).cells.size = n := by have := hpw.1; simp at this; omega
   have hst := run_storeCells_at P b off e (a.eval y).cells.toList 0 cur w e2 (by simpa using e3) h1
   simp only [execOp,hop,e1,Instr.storeAt,Instr.sureAddr,Sem.run_bind,Sem.run_pure,Result.andThen_ok,storeVar,s1,hsz]
   rw [if_neg (by simp)]
   simp only [hst,Result.andThen_ok,Nat.add_zero]
   rfl
  ·cases hr
 ·cases hc
end
end Go.Abs
