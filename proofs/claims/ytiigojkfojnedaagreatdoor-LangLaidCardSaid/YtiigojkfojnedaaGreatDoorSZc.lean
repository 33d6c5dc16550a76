import Derived.Test.YtiigojkfojnedaaGreatDoorSZw
import Derived.Test.YtiigojkfojnedaaGreatDoorSZka
set_option linter.all false
set_option maxRecDepth 100000
set_option maxHeartbeats 8000000
open Go.Proofs.Tryz renaming prog->Ψ,func109->amu,func238->amv,func174->amw,func277->amx,func106->amy,func111->amA,func269->amB
open Go.World renaming freeze->amz
open Nat renaming le_refl->bS,beq->gj,eq_of_beq_eq_true->Fo
open Option.some renaming injEq->bh
open Prod.mk renaming injEq->aA
namespace Go.Θ.Tz
open Go.Θ Go.Proofs
open Go.RowKit (Below)
section
variable{base:Nat}{LC:eY}
theorem ahr{gl:Nat->AV}:mF Fence.wide Ψ base LC gl 109 xU:=
 agF amu (by rfl) (by kernel_rfl) fun i hi w=>Tryz.strconv_Itoa_small i hi w
theorem ahu{gl:Nat->AV}:mF Fence.wide Ψ base LC gl 238 xT:=
 agE amv (by rfl) (by kernel_rfl) fun s c w=>Tryz.strings_IndexByte s c w
theorem aht{gl:Nat->AV}:mF Fence.wide Ψ base LC gl 174 xV:=
 agG amw (by rfl) (by kernel_rfl) Tryz.strings_Join_none fun bk o c xs sep w h1 h2 h3 h4 h5=>Tryz.strings_Join bk o c xs sep w h1 h2 h3 h4 h5
theorem ahw{gl:Nat->AV}:mF Fence.wide Ψ base LC gl 277 xS:=
 agD amx (by rfl) (by kernel_rfl) fun b es clock w h=>agi b es clock w h
theorem ahq{gl:Nat->AV}:mF Fence.wide Ψ base LC gl 106 (xX 150 5):=
 agI amy (by rfl) (by kernel_rfl) fun b s p v r q w h1 h2 h3 h4 h5=>writeString b s p v r q w h1 h2 h3 h4 h5
theorem abA(w:World)(g n k:Nat)(h:k≠g):(w.freeze ⟨g,0,none⟩ n).heap[k]?=w.heap[k]?:=by
 unfold amz;split
 ·rfl
 ·simp only[Array.getElem?_modify];rw[if_neg (fun e=>h e.symm)]
theorem abB(w:World)(g n:Nat):(w.freeze ⟨g,0,none⟩ n).heap.size=w.heap.size/\(w.freeze ⟨g,0,none⟩ n).os=w.os/\(w.freeze ⟨g,0,none⟩ n).tape=w.tape/\(w.freeze ⟨g,0,none⟩ n).output=w.output:=by
 unfold amz;split
 ·exact⟨rfl,rfl,rfl,rfl⟩
 ·exact⟨by simp,rfl,rfl,rfl⟩
theorem ahs{gl:Nat->AV}:mF Fence.wide Ψ base LC gl 111 (xW 150 5):=by
 refine agH amA (by rfl) (by kernel_rfl) fun b p v r q w hb gH xB hq=>?_;rcases gH with⟨rfl,rfl,rfl⟩|⟨g,cap,cur,rfl,rfl,φ,hg,jm,lu,DA,jz⟩
 ·refine(Zn b p w hb).mono fun e w' he=>?_;obtain⟨rfl,rfl⟩:=he;exact⟨_,rfl,rfl,bS _,rfl,rfl,rfl,fun _ _ _=>rfl⟩
 ·have xy:((q.map UInt8.ofNat).map UInt8.toNat)=q:=by
   have h1:q.map (UInt8.toNat∘UInt8.ofNat)=q.map id:=List.map_congr_left fun x hx=>by have:=hq x hx;simp only[Function.comp,id,UInt8.toNat_ofNat'];omega
   rw[List.map_map,h1,List.map_id]
  have hl:(q.map UInt8.ofNat).length=q.length:=by simp
  refine(Zo b g cap p cur (q.map UInt8.ofNat) w (by simpa using φ) (by rw[hl];exact hb) hg jm (by rw[hl];exact lu) DA (fun j x hx=>?_)).mono fun e w' he=>?_
  ·have hj:j<q.length:=by have:=(List.getElem?_eq_some_iff.1 hx).1;simpa using this
   have gr:x=UInt8.ofNat q[j]:=by rw[List.getElem?_map,List.getElem?_eq_getElem hj]at hx;simpa using hx.symm
   have:=hq q[j] (List.getElem_mem hj);rw[jz j hj,gr,UInt8.toNat_ofNat'];congr 3;omega
  ·obtain⟨rfl,rfl⟩:=he;obtain⟨k1,k2,k3,k4⟩:=abB w.drew g (q.map UInt8.ofNat).length;refine⟨_,rfl,by simpa using xy,by rw[k1];exact bS _,k2,k3,k4,fun k hk hr=>?_⟩;rw[abA _ _ _ _ (fun e=>hr (by rw[e]))];rfl
theorem ahv{u:Nat}:mF Fence.wide Ψ base LC (gl u) 269 (uQ 350):=by
 refine agC 350 amB (by rfl) (by kernel_rfl) (fun s n hs hn w=>(Tryz.strconv_Atoi s n hs hn w).mono fun e w' he=>?_) (fun w g eH cC=>?_)
 ·obtain⟨rfl,t,rfl⟩:=he;exact⟨rfl,Lib.bytesWorld_below _ _ _⟩
 ·have h8:VR g bV (.ref [.iface u .cY]) (.pointer (some ⟨8,0,none⟩)):=eH 8;obtain⟨x,hx⟩:∃x,w.cell? ⟨8,0,none⟩=some (.iface u x):=by
   cases h8 with
   |ref _ _ _ _ xs hi hv=>
    have h0:=hv 0 (by simp)
    have h1:=(hi 0 (by simp)).1;simp only[List.getElem_cons_zero]at h0;cases hx:xs 0<;>rw[hx]at h0<;>(try(cases h0;done));cases h0;rw[hx]at h1;exact⟨_,cC _ _ _ h1⟩
  refine(Tryz.strconv_Atoi_err .empty (by decide) (by decide) _ w hx (.inr ⟨_,_,rfl⟩)).mono fun e w' he=>?_;obtain⟨N,rfl,_,_,hB⟩:=he;exact⟨N,rfl,hB⟩
end
theorem ce{α:Type}{b:Bool}{x y:Option α}{Q:α->Prop}(hx:∀g,x=some g->Q g)(hy:∀g,y=some g->Q g):∀g,cond b x y=some g->Q g:=by
 cases b with
 |true=>exact hx
 |false=>exact hy
theorem cl{n k:Nat}{gk:AF}{P:Program}(h:aH P k gk):∀g,cond (gj n k) (some gk) none=some g->aH P n g:=by
 intro g hg;cases hb:gj n k with
 |true=>
  rw[hb]at hg
  cases hg;rw[Fo hb];exact h
 |false=>rw[hb]at hg;cases hg
theorem Ti(n:Nat):∀g,fs n=some g->aH Ψ n g:=
 ce (ce (ce (ce (ce (ce (cl zC) (ce (cl k19) (cl k25))) (ce (ce (cl k26) (cl k29)) (ce (cl k32) (cl k35)))) (ce (ce (ce (cl k36) (cl k37)) (ce (cl k38) (cl k39))) (ce (ce (cl k43) (cl k55)) (ce (cl k56) (cl k65))))) (ce (ce (ce (ce (cl k66) (cl k70)) (ce (cl k72) (cl k73))) (ce (ce (cl k74) (cl k75)) (ce (cl k83) (cl k85)))) (ce (ce (ce (cl k86) (cl adB)) (ce (cl adC) (cl adD))) (ce (ce (cl adE) (cl adF)) (ce (cl adG) (cl adH)))))) (ce (ce (ce (ce (ce (cl adI) (cl adJ)) (ce (cl adK) (cl adL))) (ce (ce (cl adM) (cl adN)) (ce (cl adO) (cl adP)))) (ce (ce (ce (cl adQ) (cl adR)) (ce (cl adS) (cl adT))) (ce (ce (cl adU) (cl adV)) (ce (cl adW) (cl adX))))) (ce (ce (ce (ce (cl adY) (cl adZ)) (ce (cl ad0) (cl ad1))) (ce (ce (cl ad2) (cl ad3)) (ce (cl ad4) (cl ad5)))) (ce (ce (ce (cl ad6) (cl ad7)) (ce (cl ad8) (cl ad9))) (ce (ce (cl ad_) (cl ad')) (ce (cl aea) (cl aeb))))))) (ce (ce (ce (ce (ce (ce (cl aec) (cl aed)) (ce (cl aee) (cl aef))) (ce (ce (cl aeg) (cl aeh)) (ce (cl aei) (cl aej)))) (ce (ce (ce (cl aek) (cl ael)) (ce (cl aem) (cl aen))) (ce (ce (cl aeo) (cl aep)) (ce (cl aeq) (cl aer))))) (ce (ce (ce (ce (cl aes) (cl aet)) (ce (cl aeu) (cl aev))) (ce (ce (cl aew) (cl aex)) (ce (cl aey) (cl aez)))) (ce (ce (ce (cl aeA) (cl aeB)) (ce (cl aeC) (cl aeD))) (ce (ce (cl aeE) (cl aeF)) (ce (cl aeG) (cl aeH)))))) (ce (ce (ce (ce (ce (cl aeI) (cl aeJ)) (ce (cl aeK) (cl aeL))) (ce (ce (cl aeM) (cl aeN)) (ce (cl aeO) (cl aeP)))) (ce (ce (ce (cl aeQ) (cl aeR)) (ce (cl aeS) (cl aeT))) (ce (ce (cl aeU) (cl aeV)) (ce (cl aeW) (cl aeX))))) (ce (ce (ce (ce (cl aeY) (cl aeZ)) (ce (cl ae0) (cl ae1))) (ce (ce (cl ae2) (cl ae3)) (ce (cl ae4) (cl ae5)))) (ce (ce (ce (cl ae6) (cl ae7)) (ce (cl ae8) (cl ae9))) (ce (ce (cl ae_) (cl ae')) (ce (cl afa) (cl afb)))))))
theorem Qs(n:Nat):∀g,alts n=some g->aH Ψ n g:=
 cl afl
structure PQ (base:Nat) (gl:Nat->AV) (f:Nat) (p:Prim):Prop where
 ok:mF Fence.wide Ψ base (mA Ψ) gl f p
 km:∀args m r m',p args m=some (r,m')->KM m m'
 fn:∃fn,Ψ.funcs[f]?=some fn/\fn.body.isNone=false/\(fn.name== "runtime.NumGoroutine")=false
theorem pl{base:Nat}{gl:Nat->AV}{n k:Nat}{pk:Prim}{y:Option Prim}(h:PQ base gl k pk)(hy:∀p,y=some p->PQ base gl n p):∀p,cond (gj n k) (some pk) y=some p->PQ base gl n p:=by
 intro p hp;cases hb:gj n k with
 |true=>
  rw[hb]at hp
  cases hp;rw[Fo hb];exact h
 |false=>rw[hb]at hp;exact hy p hp
theorem z_{p:Prim}(h:∀args m r m',p args m=some (r,m')->m'=m):∀args m r m',p args m=some (r,m')->KM m m':=fun args m r m' hr=>by rw[h args m r m' hr];exact KM.refl m
theorem ahA:∀args m r m',xU args m=some (r,m')->m'=m:=by
 intro args m r m' h;unfold xU at h
 (repeat' split at h)<;>first|(cases h;done)|(simp only[bh,aA]at h;exact h.2.symm)
theorem ahx(te:TypeId):∀args m r m',uQ te args m=some (r,m')->m'=m:=by
 intro args m r m' h;unfold uQ at h
 (repeat' split at h)<;>first
  |(cases h;done)
  |(simp only[bh,aA]at h;exact h.2.symm)
  |(simp only[Option.map_eq_some_iff,aA]at h;obtain⟨_,_,_,h⟩:=h;exact h.symm)
theorem ahB:∀args m r m',xV args m=some (r,m')->m'=m:=by
 intro args m r m' h;unfold xV at h
 (repeat' split at h)<;>first|(cases h;done)|(simp only[bh,aA]at h;exact h.2.symm)
theorem ahz:∀args m r m',xT args m=some (r,m')->m'=m:=by
 intro args m r m' h;unfold xT at h;split at h
 ·split at h
  ·simp only[bh,aA]at h;exact h.2.symm
  ·cases h
 ·cases h
theorem Pa(v:AV):∀args m r m',uR v args m=some (r,m')->m'=m:=by
 intro args m r m' h;unfold uR at h
 (repeat' split at h)<;>first|(cases h;done)|(simp only[bh,aA]at h;exact h.2.symm)
theorem Jp{base u:Nat}(n:Nat):∀p,Pl n=some p->PQ base (gl u) n p:=
 pl ⟨ahr,z_ ahA,_,amu,by rfl,by kernel_rfl⟩ (pl ⟨ahv,z_ (ahx 350),_,amB,by rfl,by kernel_rfl⟩ (pl ⟨ahq,ahD 150 5,_,amy,by rfl,by kernel_rfl⟩
  (pl ⟨ahs,ahC 150 5,_,amA,by rfl,by kernel_rfl⟩ (pl ⟨aht,z_ ahB,_,amw,by rfl,by kernel_rfl⟩ (pl ⟨ahu,z_ ahz,_,amv,by rfl,by kernel_rfl⟩
   (pl ⟨ahw,ahy,_,amx,by rfl,by kernel_rfl⟩ (fun p hp=>by cases hp)))))))
theorem YD(base u:Nat):Fk Fence.wide Ψ base (C0 u):= {
 fs f g h:=Ti f g h
 alts f g h:=Qs f g h
 gQ f p h:=(Jp (base:=base) (u:=u) f p h).ok
 EO f p h:=(Jp (base:=base) (u:=u) f p h).km
 Pm f p h:= .inl (Jp (base:=base) (u:=u) f p h).fn}
theorem J6(base u k:Nat):nS Fence.wide Ψ base (mA Ψ) (gl u) (cv (C0 u) k):=Ss (fun _=>trivial) rfl rfl (YD base u) k
theorem t240(u:Nat)(mem:Mem):cv (C0 u) 70 (.fn (.func 240) [] []) [] mem=some (E_,mem):=by
 have h:cv (C0 u) 70 (.fn (.func 240) [] []) [] mem=some (E_,mem.back ((⟨mem.ε,[]⟩:Mem).back ⟨mem.ε,[]⟩)):=by kernel_rfl
 rw[show(⟨mem.ε,[]⟩:Mem).back ⟨mem.ε,[]⟩=⟨mem.ε,[]⟩from AH _,AH]at h;exact h
theorem t241(u:Nat)(mem:Mem):cv (C0 u) 70 (.fn (.func 241) [] []) [] mem=some (E',mem):=by
 have h:cv (C0 u) 70 (.fn (.func 241) [] []) [] mem=some (E',mem.back ((⟨mem.ε,[]⟩:Mem).back ⟨mem.ε,[]⟩)):=by kernel_rfl
 rw[show(⟨mem.ε,[]⟩:Mem).back ⟨mem.ε,[]⟩=⟨mem.ε,[]⟩from AH _,AH]at h;exact h
theorem t244(u:Nat)(mem:Mem):cv (C0 u) 70 (.fn (.func 244) [] []) [] mem=some (Fa,mem):=by
 have h:cv (C0 u) 70 (.fn (.func 244) [] []) [] mem=some (Fa,mem.back ((⟨mem.ε,[]⟩:Mem).back ⟨mem.ε,[]⟩)):=by kernel_rfl
 rw[show(⟨mem.ε,[]⟩:Mem).back ⟨mem.ε,[]⟩=⟨mem.ε,[]⟩from AH _,AH]at h;exact h
theorem Pn{base u:Nat}(n:Nat):∀p,gQ n=some p->PQ base (gl u) n p:=
 pl ⟨O9 (J6 base u 70) (t240 u),z_ (Pa E_),_,Tryz.func240,by rfl,by kernel_rfl⟩ (pl ⟨O9 (J6 base u 70) (t241 u),z_ (Pa E'),_,Tryz.func241,by rfl,by kernel_rfl⟩
  (pl ⟨O9 (J6 base u 70) (t244 u),z_ (Pa Fa),_,Tryz.func244,by rfl,by kernel_rfl⟩ (Jp n)))
theorem YF(base u:Nat):Fk Fence.wide Ψ base (C u):= {
 fs f g h:=Ti f g h
 alts f g h:=Qs f g h
 gQ f p h:=(Pn (base:=base) (u:=u) f p h).ok
 EO f p h:=(Pn (base:=base) (u:=u) f p h).km
 Pm f p h:= .inl (Pn (base:=base) (u:=u) f p h).fn}
theorem YE(base u k:Nat):nS Fence.wide Ψ base (mA Ψ) (gl u) (cv (C u) k):=Ss (fun _=>trivial) rfl rfl (YF base u) k
end Go.Θ.Tz
