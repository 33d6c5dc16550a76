import Derived.Test.YtiigojkfojnedaaGreatDoorTZw
import Derived.Test.YtiigojkfojnedaaGreatDoorTZka
set_option linter.all false
set_option maxRecDepth 100000
set_option maxHeartbeats 8000000
open Go.Proofs.Tryz renaming prog->Ψ,func109->amg,func238->amh,func174->ami,func277->amj,func106->amk,func111->amm,func269->amn
open Go.World renaming freeze->aml
open Nat renaming le_refl->bA,beq->gm,eq_of_beq_eq_true->E0
open Option.some renaming injEq->bc
open Prod.mk renaming injEq->az
namespace Go.Δ.Tz
open Go.Δ Go.Proofs
open Go.RowKit (Below)
section
variable{base:Nat}{LC:eX}
theorem ag3{gl:Nat->AV}:mr Fence.wide Ψ base LC gl 109 xM:=
 agf amg (by rfl) (by kernel_rfl) fun i hi w=>Tryz.strconv_Itoa_small i hi w
theorem ag6{gl:Nat->AV}:mr Fence.wide Ψ base LC gl 238 xL:=
 age amh (by rfl) (by kernel_rfl) fun s c w=>Tryz.strings_IndexByte s c w
theorem ag5{gl:Nat->AV}:mr Fence.wide Ψ base LC gl 174 xN:=
 agh ami (by rfl) (by kernel_rfl) Tryz.strings_Join_none fun bk o c xs sep w h1 h2 h3 h4 h5=>Tryz.strings_Join bk o c xs sep w h1 h2 h3 h4 h5
theorem ag8{gl:Nat->AV}:mr Fence.wide Ψ base LC gl 277 xK:=
 agd amj (by rfl) (by kernel_rfl) fun b es clock w h=>afV b es clock w h
theorem ag1{gl:Nat->AV}:mr Fence.wide Ψ base LC gl 106 (xP 150 5):=
 agj amk (by rfl) (by kernel_rfl) fun b s p v r q w h1 h2 h3 h4 h5=>writeString b s p v r q w h1 h2 h3 h4 h5
theorem abd(w:World)(g n k:Nat)(h:k≠g):(w.freeze ⟨g,0,none⟩ n).heap[k]?=w.heap[k]?:=by
 unfold aml;split
 ·rfl
 ·simp only[Array.getElem?_modify];rw[if_neg (fun e=>h e.symm)]
theorem abe(w:World)(g n:Nat):(w.freeze ⟨g,0,none⟩ n).heap.size=w.heap.size/\(w.freeze ⟨g,0,none⟩ n).os=w.os/\(w.freeze ⟨g,0,none⟩ n).tape=w.tape/\(w.freeze ⟨g,0,none⟩ n).output=w.output:=by
 unfold aml;split
 ·exact⟨rfl,rfl,rfl,rfl⟩
 ·exact⟨by simp,rfl,rfl,rfl⟩
theorem ag4{gl:Nat->AV}:mr Fence.wide Ψ base LC gl 111 (xO 150 5):=by
 refine agi amm (by rfl) (by kernel_rfl) fun b p v r q w hb iu xq hq=>?_;rcases iu with⟨rfl,rfl,rfl⟩|⟨g,cap,cur,rfl,rfl,τ,hg,jf,lx,C',ij⟩
 ·refine(Y6 b p w hb).mono fun e w' he=>?_;obtain⟨rfl,rfl⟩:=he;exact⟨_,rfl,rfl,bA _,rfl,rfl,rfl,fun _ _ _=>rfl⟩
 ·have xo:((q.map UInt8.ofNat).map UInt8.toNat)=q:=by
   have h1:q.map (UInt8.toNat∘UInt8.ofNat)=q.map id:=List.map_congr_left fun x hx=>by have:=hq x hx;simp only[Function.comp,id,UInt8.toNat_ofNat'];omega
   rw[List.map_map,h1,List.map_id]
  have hl:(q.map UInt8.ofNat).length=q.length:=by simp
  refine(Y7 b g cap p cur (q.map UInt8.ofNat) w (by simpa using τ) (by rw[hl];exact hb) hg jf (by rw[hl];exact lx) C' (fun j x hx=>?_)).mono fun e w' he=>?_
  ·have hj:j<q.length:=by have:=(List.getElem?_eq_some_iff.1 hx).1;simpa using this
   have gr:x=UInt8.ofNat q[j]:=by rw[List.getElem?_map,List.getElem?_eq_getElem hj]at hx;simpa using hx.symm
   have:=hq q[j] (List.getElem_mem hj);rw[ij j hj,gr,UInt8.toNat_ofNat'];congr 3;omega
  ·obtain⟨rfl,rfl⟩:=he;obtain⟨k1,k2,k3,k4⟩:=abe w.drew g (q.map UInt8.ofNat).length;refine⟨_,rfl,by simpa using xo,by rw[k1];exact bA _,k2,k3,k4,fun k hk hr=>?_⟩;rw[abd _ _ _ _ (fun e=>hr (by rw[e]))];rfl
theorem ag7{u:Nat}:mr Fence.wide Ψ base LC (gl u) 269 (uJ 350):=by
 refine agc 350 amn (by rfl) (by kernel_rfl) (fun s n hs hn w=>(Tryz.strconv_Atoi s n hs hn w).mono fun e w' he=>?_) (fun w g eE cC=>?_)
 ·obtain⟨rfl,t,rfl⟩:=he;exact⟨rfl,Lib.bytesWorld_below _ _ _⟩
 ·have h8:VR g bV (.ref [.iface u .cU]) (.pointer (some ⟨8,0,none⟩)):=eE 8;obtain⟨x,hx⟩:∃x,w.cell? ⟨8,0,none⟩=some (.iface u x):=by
   cases h8 with
   |ref _ _ _ _ xs hi hv=>
    have h0:=hv 0 (by simp)
    have h1:=(hi 0 (by simp)).1;simp only[List.getElem_cons_zero]at h0;cases hx:xs 0<;>rw[hx]at h0<;>(try(cases h0;done));cases h0;rw[hx]at h1;exact⟨_,cC _ _ _ h1⟩
  refine(Tryz.strconv_Atoi_err .empty (by decide) (by decide) _ w hx (.inr ⟨_,_,rfl⟩)).mono fun e w' he=>?_;obtain⟨N,rfl,_,_,hB⟩:=he;exact⟨N,rfl,hB⟩
end
theorem ce{α:Type}{b:Bool}{x y:Option α}{Q:α->Prop}(hx:∀g,x=some g->Q g)(hy:∀g,y=some g->Q g):∀g,cond b x y=some g->Q g:=by
 cases b with
 |true=>exact hx
 |false=>exact hy
theorem cl{n k:Nat}{gk:AF}{P:Program}(h:aO P k gk):∀g,cond (gm n k) (some gk) none=some g->aO P n g:=by
 intro g hg;cases hb:gm n k with
 |true=>
  rw[hb]at hg
  cases hg;rw[E0 hb];exact h
 |false=>rw[hb]at hg;cases hg
theorem S_(n:Nat):∀g,fs n=some g->aO Ψ n g:=
 ce (ce (ce (ce (ce (ce (cl k5) (ce (cl k19) (cl k25))) (ce (ce (cl k26) (cl k29)) (ce (cl k32) (cl k35)))) (ce (ce (cl k36) (ce (cl k37) (cl k38))) (ce (ce (cl k39) (cl k43)) (ce (cl k56) (cl k65))))) (ce (ce (ce (cl k66) (ce (cl k70) (cl k72))) (ce (ce (cl k75) (cl k83)) (ce (cl k85) (cl adq)))) (ce (ce (cl adr) (ce (cl ads) (cl adt))) (ce (ce (cl adu) (cl adv)) (ce (cl adw) (cl adx)))))) (ce (ce (ce (ce (cl ady) (ce (cl adz) (cl adA))) (ce (ce (cl adB) (cl adC)) (ce (cl adD) (cl adE)))) (ce (ce (cl adF) (ce (cl adG) (cl adH))) (ce (ce (cl adI) (cl adJ)) (ce (cl adK) (cl adL))))) (ce (ce (ce (cl adM) (ce (cl adN) (cl adO))) (ce (ce (cl adP) (cl adQ)) (ce (cl adR) (cl adS)))) (ce (ce (ce (cl adT) (cl adU)) (ce (cl adV) (cl adW))) (ce (ce (cl adX) (cl adY)) (ce (cl adZ) (cl ad0))))))) (ce (ce (ce (ce (ce (cl ad1) (ce (cl ad2) (cl ad3))) (ce (ce (cl ad4) (cl ad5)) (ce (cl ad6) (cl ad7)))) (ce (ce (cl ad8) (ce (cl ad9) (cl ad_))) (ce (ce (cl ad') (cl aea)) (ce (cl aeb) (cl aec))))) (ce (ce (ce (cl aed) (ce (cl aee) (cl aef))) (ce (ce (cl aeg) (cl aeh)) (ce (cl aei) (cl aej)))) (ce (ce (ce (cl aek) (cl ael)) (ce (cl aem) (cl aen))) (ce (ce (cl aeo) (cl aep)) (ce (cl aeq) (cl aer)))))) (ce (ce (ce (ce (cl aes) (ce (cl aet) (cl aeu))) (ce (ce (cl aev) (cl aew)) (ce (cl aex) (cl aey)))) (ce (ce (cl aez) (ce (cl aeA) (cl aeB))) (ce (ce (cl aeC) (cl aeD)) (ce (cl aeE) (cl aeF))))) (ce (ce (ce (cl aeG) (ce (cl aeH) (cl aeI))) (ce (ce (cl aeJ) (cl aeK)) (ce (cl aeL) (cl aeM)))) (ce (ce (ce (cl aeN) (cl aeO)) (ce (cl aeP) (cl aeQ))) (ce (ce (cl aeR) (cl aeS)) (ce (cl aeT) (cl aeU)))))))
theorem Qp(n:Nat):∀g,alts n=some g->aO Ψ n g:=
 cl ae4
structure PQ (base:Nat) (gl:Nat->AV) (f:Nat) (p:Prim):Prop where
 ok:mr Fence.wide Ψ base (mn Ψ) gl f p
 km:∀args m r m',p args m=some (r,m')->KM m m'
 fn:∃fn,Ψ.funcs[f]?=some fn/\fn.body.isNone=false/\(fn.name== "runtime.NumGoroutine")=false
theorem pl{base:Nat}{gl:Nat->AV}{n k:Nat}{pk:Prim}{y:Option Prim}(h:PQ base gl k pk)(hy:∀p,y=some p->PQ base gl n p):∀p,cond (gm n k) (some pk) y=some p->PQ base gl n p:=by
 intro p hp;cases hb:gm n k with
 |true=>
  rw[hb]at hp
  cases hp;rw[E0 hb];exact h
 |false=>rw[hb]at hp;exact hy p hp
theorem zM{p:Prim}(h:∀args m r m',p args m=some (r,m')->m'=m):∀args m r m',p args m=some (r,m')->KM m m':=fun args m r m' hr=>by rw[h args m r m' hr];exact KM.refl m
theorem ahb:∀args m r m',xM args m=some (r,m')->m'=m:=by
 intro args m r m' h;unfold xM at h
 (repeat' split at h)<;>first|(cases h;done)|(simp only[bc,az]at h;exact h.2.symm)
theorem ag9(te:TypeId):∀args m r m',uJ te args m=some (r,m')->m'=m:=by
 intro args m r m' h;unfold uJ at h
 (repeat' split at h)<;>first
  |(cases h;done)
  |(simp only[bc,az]at h;exact h.2.symm)
  |(simp only[Option.map_eq_some_iff,az]at h;obtain⟨_,_,_,h⟩:=h;exact h.symm)
theorem ahc:∀args m r m',xN args m=some (r,m')->m'=m:=by
 intro args m r m' h;unfold xN at h
 (repeat' split at h)<;>first|(cases h;done)|(simp only[bc,az]at h;exact h.2.symm)
theorem aha:∀args m r m',xL args m=some (r,m')->m'=m:=by
 intro args m r m' h;unfold xL at h;split at h
 ·split at h
  ·simp only[bc,az]at h;exact h.2.symm
  ·cases h
 ·cases h
theorem Pa(v:AV):∀args m r m',uK v args m=some (r,m')->m'=m:=by
 intro args m r m' h;unfold uK at h
 (repeat' split at h)<;>first|(cases h;done)|(simp only[bc,az]at h;exact h.2.symm)
theorem Jb{base u:Nat}(n:Nat):∀p,Pk n=some p->PQ base (gl u) n p:=
 pl ⟨ag3,zM ahb,_,amg,by rfl,by kernel_rfl⟩ (pl ⟨ag7,zM (ag9 350),_,amn,by rfl,by kernel_rfl⟩ (pl ⟨ag1,ahe 150 5,_,amk,by rfl,by kernel_rfl⟩
  (pl ⟨ag4,ahd 150 5,_,amm,by rfl,by kernel_rfl⟩ (pl ⟨ag5,zM ahc,_,ami,by rfl,by kernel_rfl⟩ (pl ⟨ag6,zM aha,_,amh,by rfl,by kernel_rfl⟩
   (pl ⟨ag8,ag_,_,amj,by rfl,by kernel_rfl⟩ (fun p hp=>by cases hp)))))))
theorem Yl(base u:Nat):EY Fence.wide Ψ base (C0 u):= {
 fs f g h:=S_ f g h
 alts f g h:=Qp f g h
 iX f p h:=(Jb (base:=base) (u:=u) f p h).ok
 Eh f p h:=(Jb (base:=base) (u:=u) f p h).km
 Pl f p h:= .inl (Jb (base:=base) (u:=u) f p h).fn}
theorem JR(base u k:Nat):nA Fence.wide Ψ base (mn Ψ) (gl u) (cv (C0 u) k):=Sl (fun _=>trivial) rfl rfl (Yl base u) k
theorem t240(u:Nat)(mem:Mem):cv (C0 u) 70 (.fn (.func 240) [] []) [] mem=some (EK,mem):=by
 have h:cv (C0 u) 70 (.fn (.func 240) [] []) [] mem=some (EK,mem.back ((⟨mem.ε,[]⟩:Mem).back ⟨mem.ε,[]⟩)):=by kernel_rfl
 rw[show(⟨mem.ε,[]⟩:Mem).back ⟨mem.ε,[]⟩=⟨mem.ε,[]⟩from An _,An]at h;exact h
theorem t241(u:Nat)(mem:Mem):cv (C0 u) 70 (.fn (.func 241) [] []) [] mem=some (EM,mem):=by
 have h:cv (C0 u) 70 (.fn (.func 241) [] []) [] mem=some (EM,mem.back ((⟨mem.ε,[]⟩:Mem).back ⟨mem.ε,[]⟩)):=by kernel_rfl
 rw[show(⟨mem.ε,[]⟩:Mem).back ⟨mem.ε,[]⟩=⟨mem.ε,[]⟩from An _,An]at h;exact h
theorem t244(u:Nat)(mem:Mem):cv (C0 u) 70 (.fn (.func 244) [] []) [] mem=some (EN,mem):=by
 have h:cv (C0 u) 70 (.fn (.func 244) [] []) [] mem=some (EN,mem.back ((⟨mem.ε,[]⟩:Mem).back ⟨mem.ε,[]⟩)):=by kernel_rfl
 rw[show(⟨mem.ε,[]⟩:Mem).back ⟨mem.ε,[]⟩=⟨mem.ε,[]⟩from An _,An]at h;exact h
theorem Pm{base u:Nat}(n:Nat):∀p,iX n=some p->PQ base (gl u) n p:=
 pl ⟨O9 (JR base u 70) (t240 u),zM (Pa EK),_,Tryz.func240,by rfl,by kernel_rfl⟩ (pl ⟨O9 (JR base u 70) (t241 u),zM (Pa EM),_,Tryz.func241,by rfl,by kernel_rfl⟩
  (pl ⟨O9 (JR base u 70) (t244 u),zM (Pa EN),_,Tryz.func244,by rfl,by kernel_rfl⟩ (Jb n)))
theorem Yn(base u:Nat):EY Fence.wide Ψ base (C u):= {
 fs f g h:=S_ f g h
 alts f g h:=Qp f g h
 iX f p h:=(Pm (base:=base) (u:=u) f p h).ok
 Eh f p h:=(Pm (base:=base) (u:=u) f p h).km
 Pl f p h:= .inl (Pm (base:=base) (u:=u) f p h).fn}
theorem Ym(base u k:Nat):nA Fence.wide Ψ base (mn Ψ) (gl u) (cv (C u) k):=Sl (fun _=>trivial) rfl rfl (Yn base u) k
end Go.Δ.Tz
