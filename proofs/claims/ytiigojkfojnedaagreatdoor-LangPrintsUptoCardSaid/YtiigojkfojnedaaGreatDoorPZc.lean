/- A text of this proof. -/
import Derived.Test.YtiigojkfojnedaaGreatDoorPZg
import Derived.Test.YtiigojkfojnedaaGreatDoorPZw
import Derived.Test.YtiigojkfojnedaaGreatDoorPZs
import Derived.Test.YtiigojkfojnedaaGreatDoorPZka
import Derived.Test.YtiigojkfojnedaaGreatDoorPZkb
import Derived.Test.YtiigojkfojnedaaGreatDoorPLa
import Derived.Test.YtiigojkfojnedaaGreatDoorPKx
set_option linter.unusedVariables false
set_option linter.unusedSimpArgs false
set_option maxRecDepth 100000
namespace Go.Abs.Tz
open Go.Abs Go.Proofs
open Go.RowKit (Below)
section
variable {base : Nat} {LC : LCR}
theorem p109 {gl : Nat -> AV} : PrimOK Fence.wide Tryz.prog base LC gl 109 pItoa :=
 ok_itoa Tryz.func109 (by rfl) (by kernel_rfl) fun i hi w => Tryz.strconv_Itoa_small i hi w
theorem p238 {gl : Nat -> AV} : PrimOK Fence.wide Tryz.prog base LC gl 238 pIdx :=
 ok_idx Tryz.func238 (by rfl) (by kernel_rfl) fun s c w => Tryz.strings_IndexByte s c w
theorem p174 {gl : Nat -> AV} : PrimOK Fence.wide Tryz.prog base LC gl 174 pJoin :=
 ok_join Tryz.func174 (by rfl) (by kernel_rfl) Tryz.strings_Join_none fun bk o c xs sep w h1 h2 h3 h4 h5 => Tryz.strings_Join bk o c xs sep w h1 h2 h3 h4 h5
theorem p277 {gl : Nat -> AV} : PrimOK Fence.wide Tryz.prog base LC gl 277 pClone :=
 ok_clone Tryz.func277 (by rfl) (by kernel_rfl) fun b es clock w h => mapsClone b es clock w h
theorem p106 {gl : Nat -> AV} : PrimOK Fence.wide Tryz.prog base LC gl 106 (pWS 150 5) :=
 ok_ws Tryz.func106 (by rfl) (by kernel_rfl) fun b s p v r q w h1 h2 h3 h4 h5 => writeString b s p v r q w h1 h2 h3 h4 h5
theorem freeze_other (w : World) (g n k : Nat) (h : k ≠ g) : (w.freeze ⟨g,0,none⟩ n).heap[k]? = w.heap[k]? := by
 unfold World.freeze
 split
 ·rfl
 ·simp only [Array.getElem?_modify]
  rw [if_neg (fun e => h e.symm)]
theorem freeze_same (w : World) (g n : Nat) : (w.freeze ⟨g,0,none⟩ n).heap.size = w.heap.size /\ (w.freeze ⟨g,0,none⟩ n).os = w.os /\ (w.freeze ⟨g,0,none⟩ n).tape = w.tape /\ (w.freeze ⟨g,0,none⟩ n).output = w.output := by
 unfold World.freeze
 split
 ·exact ⟨rfl,rfl,rfl,rfl⟩
 ·exact ⟨by simp,rfl,rfl,rfl⟩
theorem p111 {gl : Nat -> AV} : PrimOK Fence.wide Tryz.prog base LC gl 111 (pStr 150 5) := by
 refine ok_str Tryz.func111 (by rfl) (by kernel_rfl) fun b p v r q w hb hrow hrb hq => ?_
 rcases hrow with ⟨rfl,rfl,rfl⟩ | ⟨g,cap,cur,rfl,rfl,hne,hg,hcs,hlc,hcm,hat⟩
 ·refine (bString_nil b p w hb).mono fun e w' he => ?_
  obtain ⟨rfl,rfl⟩ := he
  exact ⟨_,rfl,rfl,Nat.le_refl _,rfl,rfl,rfl,fun _ _ _ => rfl⟩
 ·have hql : ((q.map UInt8.ofNat).map UInt8.toNat) = q := by
   have h1 : q.map (UInt8.toNat ∘ UInt8.ofNat) = q.map id := List.map_congr_left fun x hx => by
    have := hq x hx
    simp only [Function.comp,id,UInt8.toNat_ofNat']
    omega
   rw [List.map_map,h1,List.map_id]
  have hl : (q.map UInt8.ofNat).length = q.length := by simp
  refine (bString_some b g cap p cur (q.map UInt8.ofNat) w (by simpa using hne) (by rw [hl]; exact hb) hg hcs (by rw [hl]; exact hlc) hcm (fun j x hx => ?_)).mono fun e w' he => ?_
  ·have hj : j < q.length := by have := (List.getElem?_eq_some_iff.1 hx).1; simpa using this
   have hx' : x = UInt8.ofNat q[j] := by
    rw [List.getElem?_map,List.getElem?_eq_getElem hj] at hx
    simpa using hx.symm
   have := hq q[j] (List.getElem_mem hj)
   rw [hat j hj,hx',UInt8.toNat_ofNat']
   congr 3
   omega
  ·obtain ⟨rfl,rfl⟩ := he
   obtain ⟨k1,k2,k3,k4⟩ := freeze_same w.drew g (q.map UInt8.ofNat).length
   refine ⟨_,rfl,by simpa using hql,by rw [k1]; exact Nat.le_refl _,k2,k3,k4,fun k hk hr => ?_⟩
   rw [freeze_other _ _ _ _ (fun e => hr (by rw [e]))]
   rfl
theorem p269 {u : Nat} : PrimOK Fence.wide Tryz.prog base LC (gl u) 269 (pAtoi 350) := by
 refine ok_atoi 350 Tryz.func269 (by rfl) (by kernel_rfl) (fun s n hs hn w => (Tryz.strconv_Atoi s n hs hn w).mono fun e w' he => ?_) (fun w g hgl him => ?_)
 ·obtain ⟨rfl,t,rfl⟩ := he
  exact ⟨rfl,Lib.bytesWorld_below _ _ _⟩
 ·have h8 : VR g noLB (.ref [.iface u .junk]) (.pointer (some ⟨8,0,none⟩)) := hgl 8
  obtain ⟨x,hx⟩ : ∃ x,w.cell? ⟨8,0,none⟩ = some (.iface u x) := by
   cases h8 with
   | ref _ _ _ _ xs hi hv =>
    have h0 := hv 0 (by simp)
    have h1 := (hi 0 (by simp)).1
    simp only [List.getElem_cons_zero] at h0
    cases hx : xs 0 <;> rw [hx] at h0 <;> (try (cases h0; done))
    cases h0
    rw [hx] at h1
    exact ⟨_,him _ _ _ h1⟩
  refine (Tryz.strconv_Atoi_err .empty (by decide) (by decide) _ w hx (.inr ⟨_,_,rfl⟩)).mono fun e w' he => ?_
  obtain ⟨N,rfl,_,_,hB⟩ := he
  exact ⟨N,rfl,hB⟩
end
end Go.Abs.Tz
set_option maxRecDepth 100000
namespace Go.Abs.Tz
open Go.Abs Go.Proofs
theorem ce {α : Type} {b : Bool} {x y : Option α} {Q : α -> Prop} (hx : ∀ g,x = some g -> Q g) (hy : ∀ g,y = some g -> Q g) : ∀ g,cond b x y = some g -> Q g := by
 cases b with
 | true => exact hx
 | false => exact hy
theorem cl {n k : Nat} {gk : AF} {P : Program} (h : FnOK P k gk) : ∀ g,cond (Nat.beq n k) (some gk) none = some g -> FnOK P n g := by
 intro g hg
 cases hb : Nat.beq n k with
 | true =>
  rw [hb] at hg
  cases hg
  rw [Nat.eq_of_beq_eq_true hb]
  exact h
 | false => rw [hb] at hg; cases hg
theorem fs_ok (n : Nat) : ∀ g,fs n = some g -> FnOK Tryz.prog n g :=
 ce (ce (ce (ce (ce (ce (ce (cl k3) (cl k4)) (ce (cl k17) (cl k18))) (ce (ce (cl k19) (cl k20)) (ce (cl k21) (ce (cl k22) (cl k23))))) (ce (ce (ce (cl k24) (cl k25)) (ce (cl k26) (cl k27))) (ce (ce (cl k28) (cl k29)) (ce (cl k30) (ce (cl k31) (cl k32)))))) (ce (ce (ce (ce (cl k33) (cl k34)) (ce (cl k39) (cl k43))) (ce (ce (cl k56) (cl k65)) (ce (cl k66) (ce (cl k70) (cl k72))))) (ce (ce (ce (cl k80) (cl k85)) (ce (cl k88) (ce (cl k93) (cl k94)))) (ce (ce (cl k95) (cl k96)) (ce (cl k97) (ce (cl k98) (cl k99))))))) (ce (ce (ce (ce (ce (cl k100) (cl k101)) (ce (cl k102) (cl k103))) (ce (ce (cl k104) (cl k105)) (ce (cl k107) (ce (cl k108) (cl k110))))) (ce (ce (ce (cl k112) (cl k113)) (ce (cl k114) (cl k115))) (ce (ce (cl k116) (cl k117)) (ce (cl k118) (ce (cl k124) (cl k126)))))) (ce (ce (ce (ce (cl k130) (cl k134)) (ce (cl k135) (cl k136))) (ce (ce (cl k137) (cl k148)) (ce (cl k149) (ce (cl k150) (cl k152))))) (ce (ce (ce (cl k157) (cl k163)) (ce (cl k164) (ce (cl k165) (cl k166)))) (ce (ce (cl k167) (cl k168)) (ce (cl k169) (ce (cl k171) (cl k172)))))))) (ce (ce (ce (ce (ce (ce (cl k175) (cl k176)) (ce (cl k177) (cl k178))) (ce (ce (cl k179) (cl k180)) (ce (cl k181) (ce (cl k187) (cl k188))))) (ce (ce (ce (cl k189) (cl k190)) (ce (cl k191) (cl k192))) (ce (ce (cl k193) (cl k201)) (ce (cl k202) (ce (cl k203) (cl k204)))))) (ce (ce (ce (ce (cl k205) (cl k206)) (ce (cl k207) (cl k208))) (ce (ce (cl k209) (cl k217)) (ce (cl k218) (ce (cl k219) (cl k220))))) (ce (ce (ce (cl k223) (cl k225)) (ce (cl k226) (ce (cl k227) (cl k228)))) (ce (ce (cl k229) (cl k230)) (ce (cl k231) (ce (cl k232) (cl k233))))))) (ce (ce (ce (ce (ce (cl k239) (cl k240)) (ce (cl k241) (cl k242))) (ce (ce (cl k243) (cl k244)) (ce (cl k245) (ce (cl k246) (cl k247))))) (ce (ce (ce (cl k248) (cl k257)) (ce (cl k258) (cl k259))) (ce (ce (cl k260) (cl k265)) (ce (cl k266) (ce (cl k267) (cl k268)))))) (ce (ce (ce (ce (cl k270) (cl k271)) (ce (cl k272) (cl k273))) (ce (ce (cl k274) (cl k275)) (ce (cl k276) (ce (cl k282) (cl k283))))) (ce (ce (ce (cl k291) (cl k294)) (ce (cl k295) (ce (cl k296) (cl k297)))) (ce (ce (cl k298) (cl k308)) (ce (cl k309) (ce (cl k310) (cl k315))))))))
structure PQ (base : Nat) (gl : Nat -> AV) (f : Nat) (p : Prim) : Prop where
 ok : PrimOK Fence.wide Tryz.prog base (LCof Tryz.prog) gl f p
 km : ∀ args m r m',p args m = some (r,m') -> KM m m'
 fn : ∃ fn,Tryz.prog.funcs[f]? = some fn /\ fn.body.isNone = false /\ (fn.name == "runtime.NumGoroutine") = false
theorem pl {base : Nat} {gl : Nat -> AV} {n k : Nat} {pk : Prim} {y : Option Prim} (h : PQ base gl k pk) (hy : ∀ p,y = some p -> PQ base gl n p) : ∀ p,cond (Nat.beq n k) (some pk) y = some p -> PQ base gl n p := by
 intro p hp
 cases hb : Nat.beq n k with
 | true =>
  rw [hb] at hp
  cases hp
  rw [Nat.eq_of_beq_eq_true hb]
  exact h
 | false => rw [hb] at hp; exact hy p hp
theorem sameK {p : Prim} (h : ∀ args m r m',p args m = some (r,m') -> m' = m) : ∀ args m r m',p args m = some (r,m') -> KM m m' := fun args m r m' hr => by
 rw [h args m r m' hr]; exact KM.refl m
theorem pItoa_m : ∀ args m r m',pItoa args m = some (r,m') -> m' = m := by
 intro args m r m' h
 unfold pItoa at h
 (repeat' split at h) <;> first | (cases h; done) | (simp only [Option.some.injEq,Prod.mk.injEq] at h; exact h.2.symm)
theorem pAtoi_m (te : TypeId) : ∀ args m r m',pAtoi te args m = some (r,m') -> m' = m := by
 intro args m r m' h
 unfold pAtoi at h
 (repeat' split at h) <;> first
  | (cases h; done)
  | (simp only [Option.some.injEq,Prod.mk.injEq] at h; exact h.2.symm)
  | (simp only [Option.map_eq_some_iff,Prod.mk.injEq] at h; obtain ⟨_,_,_,h⟩ := h; exact h.symm)
theorem pJoin_m : ∀ args m r m',pJoin args m = some (r,m') -> m' = m := by
 intro args m r m' h
 unfold pJoin at h
 (repeat' split at h) <;> first | (cases h; done) | (simp only [Option.some.injEq,Prod.mk.injEq] at h; exact h.2.symm)
theorem pIdx_m : ∀ args m r m',pIdx args m = some (r,m') -> m' = m := by
 intro args m r m' h
 unfold pIdx at h
 split at h
 ·split at h
  ·simp only [Option.some.injEq,Prod.mk.injEq] at h; exact h.2.symm
  ·cases h
 ·cases h
theorem pConst_m (v : AV) : ∀ args m r m',pConst v args m = some (r,m') -> m' = m := by
 intro args m r m' h
 unfold pConst at h
 (repeat' split at h) <;> first | (cases h; done) | (simp only [Option.some.injEq,Prod.mk.injEq] at h; exact h.2.symm)
theorem prim0_ok {base u : Nat} (n : Nat) : ∀ p,prim0 n = some p -> PQ base (gl u) n p :=
 pl ⟨p109,sameK pItoa_m,_,Tryz.func109,by rfl,by kernel_rfl⟩ (pl ⟨p269,sameK (pAtoi_m 350),_,Tryz.func269,by rfl,by kernel_rfl⟩ (pl ⟨p106,pWS_K 150 5,_,Tryz.func106,by rfl,by kernel_rfl⟩
  (pl ⟨p111,pStr_K 150 5,_,Tryz.func111,by rfl,by kernel_rfl⟩ (pl ⟨p174,sameK pJoin_m,_,Tryz.func174,by rfl,by kernel_rfl⟩ (pl ⟨p238,sameK pIdx_m,_,Tryz.func238,by rfl,by kernel_rfl⟩
   (pl ⟨p277,pClone_K,_,Tryz.func277,by rfl,by kernel_rfl⟩ (fun p hp => by cases hp)))))))
theorem C0_ok (base u : Nat) : CfgOK Fence.wide Tryz.prog base (C0 u) := {
 fs f g h := fs_ok f g h
 prim f p h := (prim0_ok (base := base) (u := u) f p h).ok
 primK f p h := (prim0_ok (base := base) (u := u) f p h).km
 primE f p h := .inl (prim0_ok (base := base) (u := u) f p h).fn }
theorem C0_call (base u k : Nat) : CallOK Fence.wide Tryz.prog base (LCof Tryz.prog) (gl u) (cv (C0 u) k) := cv_sound (fun _ => trivial) rfl rfl (C0_ok base u) k
theorem t240 (u : Nat) (mem : Mem) : cv (C0 u) 70 (.fn (.func 240) [] []) [] mem = some (tb240,mem) := by
 have h : cvK (C0 u) 70 (.fn (.func 240) [] []) [] mem = some (tb240,mem.back ((⟨mem.blks,[]⟩ : Mem).back ⟨mem.blks,[]⟩)) := by kernel_rfl
 rw [show (⟨mem.blks,[]⟩ : Mem).back ⟨mem.blks,[]⟩ = ⟨mem.blks,[]⟩ from back_same _,back_same] at h
 exact cvK_spec (C0 u) 70 _ _ _ _ h
theorem t241 (u : Nat) (mem : Mem) : cv (C0 u) 70 (.fn (.func 241) [] []) [] mem = some (tb241,mem) := by
 have h : cvK (C0 u) 70 (.fn (.func 241) [] []) [] mem = some (tb241,mem.back ((⟨mem.blks,[]⟩ : Mem).back ⟨mem.blks,[]⟩)) := by kernel_rfl
 rw [show (⟨mem.blks,[]⟩ : Mem).back ⟨mem.blks,[]⟩ = ⟨mem.blks,[]⟩ from back_same _,back_same] at h
 exact cvK_spec (C0 u) 70 _ _ _ _ h
theorem t244 (u : Nat) (mem : Mem) : cv (C0 u) 70 (.fn (.func 244) [] []) [] mem = some (tb244,mem) := by
 have h : cvK (C0 u) 70 (.fn (.func 244) [] []) [] mem = some (tb244,mem.back ((⟨mem.blks,[]⟩ : Mem).back ⟨mem.blks,[]⟩)) := by kernel_rfl
 rw [show (⟨mem.blks,[]⟩ : Mem).back ⟨mem.blks,[]⟩ = ⟨mem.blks,[]⟩ from back_same _,back_same] at h
 exact cvK_spec (C0 u) 70 _ _ _ _ h
theorem prim_ok {base u : Nat} (n : Nat) : ∀ p,prim n = some p -> PQ base (gl u) n p :=
 pl ⟨ok_const (C0_call base u 70) (t240 u),sameK (pConst_m tb240),_,Tryz.func240,by rfl,by kernel_rfl⟩ (pl ⟨ok_const (C0_call base u 70) (t241 u),sameK (pConst_m tb241),_,Tryz.func241,by rfl,by kernel_rfl⟩
  (pl ⟨ok_const (C0_call base u 70) (t244 u),sameK (pConst_m tb244),_,Tryz.func244,by rfl,by kernel_rfl⟩ (prim0_ok n)))
theorem C_ok (base u : Nat) : CfgOK Fence.wide Tryz.prog base (C u) := {
 fs f g h := fs_ok f g h
 prim f p h := (prim_ok (base := base) (u := u) f p h).ok
 primK f p h := (prim_ok (base := base) (u := u) f p h).km
 primE f p h := .inl (prim_ok (base := base) (u := u) f p h).fn }
theorem C_call (base u k : Nat) : CallOK Fence.wide Tryz.prog base (LCof Tryz.prog) (gl u) (cv (C u) k) := cv_sound (fun _ => trivial) rfl rfl (C_ok base u) k
end Go.Abs.Tz
