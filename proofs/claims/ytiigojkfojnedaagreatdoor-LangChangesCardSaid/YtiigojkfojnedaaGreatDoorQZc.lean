import Derived.Test.YtiigojkfojnedaaGreatDoorQZw
import Derived.Test.YtiigojkfojnedaaGreatDoorQZka
set_option linter.unusedVariables false
set_option linter.unusedSimpArgs false
set_option maxRecDepth 100000
set_option maxHeartbeats 8000000
open Go.Proofs.Tryz renaming prog->Ψ,func109->aii,func238->aij,func174->aik,func277->ail,func106->aim,func111->aio,func269->aip
open Go.World renaming freeze->ain
open Nat renaming le_refl->bF,beq->fQ,eq_of_beq_eq_true->Dy
open Option.some renaming injEq->aZ
open Prod.mk renaming injEq->aN
namespace Go.ah.Tz
open Go.ah Go.Proofs
open Go.RowKit (Below)
section
variable{base:Nat}{LC:eN}
theorem aep{gl:Nat->AV}:mj Fence.wide Ψ base LC gl 109 wK:=
 adJ aii (by rfl) (by kernel_rfl) fun i hi w=>Tryz.strconv_Itoa_small i hi w
theorem aes{gl:Nat->AV}:mj Fence.wide Ψ base LC gl 238 wJ:=
 adI aij (by rfl) (by kernel_rfl) fun s c w=>Tryz.strings_IndexByte s c w
theorem aer{gl:Nat->AV}:mj Fence.wide Ψ base LC gl 174 wL:=
 adK aik (by rfl) (by kernel_rfl) Tryz.strings_Join_none fun bk o c xs sep w h1 h2 h3 h4 h5=>Tryz.strings_Join bk o c xs sep w h1 h2 h3 h4 h5
theorem aeu{gl:Nat->AV}:mj Fence.wide Ψ base LC gl 277 wI:=
 adH ail (by rfl) (by kernel_rfl) fun b es clock w h=>adl b es clock w h
theorem aeo{gl:Nat->AV}:mj Fence.wide Ψ base LC gl 106 (wN 150 5):=
 adM aim (by rfl) (by kernel_rfl) fun b s p v r q w h1 h2 h3 h4 h5=>writeString b s p v r q w h1 h2 h3 h4 h5
theorem Xq(w:World)(g n k:Nat)(h:k≠g):(w.freeze ⟨g,0,none⟩ n).heap[k]?=w.heap[k]?:=by
 unfold ain;split
 ·rfl
 ·simp only[Array.getElem?_modify];rw[if_neg (fun e=>h e.symm)]
theorem Xr(w:World)(g n:Nat):(w.freeze ⟨g,0,none⟩ n).heap.size=w.heap.size/\(w.freeze ⟨g,0,none⟩ n).os=w.os/\(w.freeze ⟨g,0,none⟩ n).tape=w.tape/\(w.freeze ⟨g,0,none⟩ n).output=w.output:=by
 unfold ain;split
 ·exact⟨rfl,rfl,rfl,rfl⟩
 ·exact⟨by simp,rfl,rfl,rfl⟩
theorem aeq{gl:Nat->AV}:mj Fence.wide Ψ base LC gl 111 (wM 150 5):=by
 refine adL aio (by rfl) (by kernel_rfl) fun b p v r q w hb dw wk hq=>?_;rcases dw with⟨rfl,rfl,rfl⟩|⟨g,cap,cur,rfl,rfl,ak,hg,fp,kR,BW,fM⟩
 ·refine(Vk b p w hb).mono fun e w' he=>?_;obtain⟨rfl,rfl⟩:=he;exact⟨_,rfl,rfl,bF _,rfl,rfl,rfl,fun _ _ _=>rfl⟩
 ·have Rf:((q.map UInt8.ofNat).map UInt8.toNat)=q:=by
   have h1:q.map (UInt8.toNat∘UInt8.ofNat)=q.map id:=List.map_congr_left fun x hx=>by have:=hq x hx;simp only[Function.comp,id,UInt8.toNat_ofNat'];omega
   rw[List.map_map,h1,List.map_id]
  have hl:(q.map UInt8.ofNat).length=q.length:=by simp
  refine(Vl b g cap p cur (q.map UInt8.ofNat) w (by simpa using ak) (by rw[hl];exact hb) hg fp (by rw[hl];exact kR) BW (fun j x hx=>?_)).mono fun e w' he=>?_
  ·have hj:j<q.length:=by have:=(List.getElem?_eq_some_iff.1 hx).1;simpa using this
   have gn:x=UInt8.ofNat q[j]:=by rw[List.getElem?_map,List.getElem?_eq_getElem hj]at hx;simpa using hx.symm
   have:=hq q[j] (List.getElem_mem hj);rw[fM j hj,gn,UInt8.toNat_ofNat'];congr 3;omega
  ·obtain⟨rfl,rfl⟩:=he;obtain⟨k1,k2,k3,k4⟩:=Xr w.drew g (q.map UInt8.ofNat).length;refine⟨_,rfl,by simpa using Rf,by rw[k1];exact bF _,k2,k3,k4,fun k hk hr=>?_⟩;rw[Xq _ _ _ _ (fun e=>hr (by rw[e]))];rfl
theorem aet{u:Nat}:mj Fence.wide Ψ base LC (gl u) 269 (tW 350):=by
 refine adG 350 aip (by rfl) (by kernel_rfl) (fun s n hs hn w=>(Tryz.strconv_Atoi s n hs hn w).mono fun e w' he=>?_) (fun w g di cu=>?_)
 ·obtain⟨rfl,t,rfl⟩:=he;exact⟨rfl,Lib.bytesWorld_below _ _ _⟩
 ·have h8:VR g bS (.ref [.iface u .cR]) (.pointer (some ⟨8,0,none⟩)):=di 8;obtain⟨x,hx⟩:∃x,w.cell? ⟨8,0,none⟩=some (.iface u x):=by
   cases h8 with
   |ref _ _ _ _ xs hi hv=>
    have h0:=hv 0 (by simp)
    have h1:=(hi 0 (by simp)).1;simp only[List.getElem_cons_zero]at h0;cases hx:xs 0<;>rw[hx]at h0<;>(try(cases h0;done));cases h0;rw[hx]at h1;exact⟨_,cu _ _ _ h1⟩
  refine(Tryz.strconv_Atoi_err .empty (by decide) (by decide) _ w hx (.inr ⟨_,_,rfl⟩)).mono fun e w' he=>?_;obtain⟨N,rfl,_,_,hB⟩:=he;exact⟨N,rfl,hB⟩
end
theorem ce{α:Type}{b:Bool}{x y:Option α}{Q:α->Prop}(hx:∀g,x=some g->Q g)(hy:∀g,y=some g->Q g):∀g,cond b x y=some g->Q g:=by
 cases b with
 |true=>exact hx
 |false=>exact hy
theorem cl{n k:Nat}{gk:AF}{P:Program}(h:az P k gk):∀g,cond (fQ n k) (some gk) none=some g->az P n g:=by
 intro g hg;cases hb:fQ n k with
 |true=>
  rw[hb]at hg
  cases hg;rw[Dy hb];exact h
 |false=>rw[hb]at hg;cases hg
theorem P0(n:Nat):∀g,fs n=some g->az Ψ n g:=
 ce (ce (ce (ce (ce (ce (ce (cl k8) (cl k19)) (ce (cl k22) (cl k25))) (ce (ce (cl k26) (cl k30)) (ce (cl k32) (ce (cl k34) (cl k39))))) (ce (ce (ce (cl k43) (cl k52)) (ce (cl k54) (cl k56))) (ce (ce (cl k59) (cl k60)) (ce (cl k61) (ce (cl k62) (cl k65)))))) (ce (ce (ce (ce (cl k66) (cl k70)) (ce (cl k72) (cl k85))) (ce (ce (cl k88) (cl k99)) (ce (cl aaK) (ce (cl aaL) (cl aaM))))) (ce (ce (ce (cl aaN) (cl aaO)) (ce (cl aaP) (ce (cl aaQ) (cl aaR)))) (ce (ce (cl aaS) (cl aaT)) (ce (cl aaU) (ce (cl aaV) (cl aaW))))))) (ce (ce (ce (ce (ce (cl aaX) (cl aaY)) (ce (cl aaZ) (cl aa0))) (ce (ce (cl aa1) (cl aa2)) (ce (cl aa3) (ce (cl aa4) (cl aa5))))) (ce (ce (ce (cl aa6) (cl aa7)) (ce (cl aa8) (cl aa9))) (ce (ce (cl aa_) (cl aa')) (ce (cl aba) (ce (cl abb) (cl abc)))))) (ce (ce (ce (ce (cl abd) (cl abe)) (ce (cl abf) (cl abg))) (ce (ce (cl abh) (cl abi)) (ce (cl abj) (ce (cl abk) (cl abl))))) (ce (ce (ce (cl abm) (cl abn)) (ce (cl abo) (ce (cl abp) (cl abq)))) (ce (ce (cl abr) (cl abt)) (ce (cl abu) (ce (cl abv) (cl abw)))))))) (ce (ce (ce (ce (ce (ce (cl abx) (cl aby)) (ce (cl abz) (cl abA))) (ce (ce (cl abB) (cl abC)) (ce (cl abD) (ce (cl abE) (cl abF))))) (ce (ce (ce (cl abG) (cl abH)) (ce (cl abI) (cl abJ))) (ce (ce (cl abK) (cl abL)) (ce (cl abM) (ce (cl abN) (cl abO)))))) (ce (ce (ce (ce (cl abP) (cl abQ)) (ce (cl abR) (cl abS))) (ce (ce (cl abT) (cl abU)) (ce (cl abV) (ce (cl abW) (cl abX))))) (ce (ce (ce (cl abY) (cl abZ)) (ce (cl ab0) (ce (cl ab1) (cl ab2)))) (ce (ce (cl ab3) (cl ab4)) (ce (cl ab5) (ce (cl ab6) (cl ab7))))))) (ce (ce (ce (ce (ce (cl ab8) (cl ab9)) (ce (cl ab_) (cl ab'))) (ce (ce (cl aca) (cl acb)) (ce (cl acd) (ce (cl ace) (cl acf))))) (ce (ce (ce (cl acg) (cl ach)) (ce (cl aci) (ce (cl acj) (cl ack)))) (ce (ce (cl acm) (cl acn)) (ce (cl aco) (ce (cl acp) (cl acq)))))) (ce (ce (ce (ce (cl acr) (cl acs)) (ce (cl acu) (cl acv))) (ce (ce (cl acw) (cl acx)) (ce (cl acy) (ce (cl acz) (cl acA))))) (ce (ce (ce (cl acB) (cl acC)) (ce (cl acD) (ce (cl acE) (cl acF)))) (ce (ce (cl acG) (cl acH)) (ce (cl acI) (ce (cl acJ) (cl acK))))))))
structure PQ (base:Nat) (gl:Nat->AV) (f:Nat) (p:Prim):Prop where
 ok:mj Fence.wide Ψ base (l_ Ψ) gl f p
 km:∀args m r m',p args m=some (r,m')->KM m m'
 fn:∃fn,Ψ.funcs[f]?=some fn/\fn.body.isNone=false/\(fn.name== "runtime.NumGoroutine")=false
theorem pl{base:Nat}{gl:Nat->AV}{n k:Nat}{pk:Prim}{y:Option Prim}(h:PQ base gl k pk)(hy:∀p,y=some p->PQ base gl n p):∀p,cond (fQ n k) (some pk) y=some p->PQ base gl n p:=by
 intro p hp;cases hb:fQ n k with
 |true=>
  rw[hb]at hp
  cases hp;rw[Dy hb];exact h
 |false=>rw[hb]at hp;exact hy p hp
theorem yI{p:Prim}(h:∀args m r m',p args m=some (r,m')->m'=m):∀args m r m',p args m=some (r,m')->KM m m':=fun args m r m' hr=>by rw[h args m r m' hr];exact KM.refl m
theorem aey:∀args m r m',wK args m=some (r,m')->m'=m:=by
 intro args m r m' h;unfold wK at h
 (repeat' split at h)<;>first|(cases h;done)|(simp only[aZ,aN]at h;exact h.2.symm)
theorem aev(te:TypeId):∀args m r m',tW te args m=some (r,m')->m'=m:=by
 intro args m r m' h;unfold tW at h
 (repeat' split at h)<;>first
  |(cases h;done)
  |(simp only[aZ,aN]at h;exact h.2.symm)
  |(simp only[Option.map_eq_some_iff,aN]at h;obtain⟨_,_,_,h⟩:=h;exact h.symm)
theorem aez:∀args m r m',wL args m=some (r,m')->m'=m:=by
 intro args m r m' h;unfold wL at h
 (repeat' split at h)<;>first|(cases h;done)|(simp only[aZ,aN]at h;exact h.2.symm)
theorem aex:∀args m r m',wJ args m=some (r,m')->m'=m:=by
 intro args m r m' h;unfold wJ at h;split at h
 ·split at h
  ·simp only[aZ,aN]at h;exact h.2.symm
  ·cases h
 ·cases h
theorem Mg(v:AV):∀args m r m',tX v args m=some (r,m')->m'=m:=by
 intro args m r m' h;unfold tX at h
 (repeat' split at h)<;>first|(cases h;done)|(simp only[aZ,aN]at h;exact h.2.symm)
theorem HL{base u:Nat}(n:Nat):∀p,Mo n=some p->PQ base (gl u) n p:=
 pl ⟨aep,yI aey,_,aii,by rfl,by kernel_rfl⟩ (pl ⟨aet,yI (aev 350),_,aip,by rfl,by kernel_rfl⟩ (pl ⟨aeo,aeB 150 5,_,aim,by rfl,by kernel_rfl⟩
  (pl ⟨aeq,aeA 150 5,_,aio,by rfl,by kernel_rfl⟩ (pl ⟨aer,yI aez,_,aik,by rfl,by kernel_rfl⟩ (pl ⟨aes,yI aex,_,aij,by rfl,by kernel_rfl⟩
   (pl ⟨aeu,aew,_,ail,by rfl,by kernel_rfl⟩ (fun p hp=>by cases hp)))))))
theorem Uy(base u:Nat):Dt Fence.wide Ψ base (C0 u):= {
 fs f g h:=P0 f g h
 jm f p h:=(HL (base:=base) (u:=u) f p h).ok
 HM f p h:=(HL (base:=base) (u:=u) f p h).km
 Mp f p h:= .inl (HL (base:=base) (u:=u) f p h).fn}
theorem Ii(base u k:Nat):np Fence.wide Ψ base (l_ Ψ) (gl u) (cv (C0 u) k):=Ps (fun _=>trivial) rfl rfl (Uy base u) k
theorem t240(u:Nat)(mem:Mem):cv (C0 u) 70 (.fn (.func 240) [] []) [] mem=some (Dk,mem):=by
 have h:cv (C0 u) 70 (.fn (.func 240) [] []) [] mem=some (Dk,mem.back ((⟨mem.ε,[]⟩:Mem).back ⟨mem.ε,[]⟩)):=by kernel_rfl
 rw[show(⟨mem.ε,[]⟩:Mem).back ⟨mem.ε,[]⟩=⟨mem.ε,[]⟩from yX _,yX]at h;exact h
theorem t241(u:Nat)(mem:Mem):cv (C0 u) 70 (.fn (.func 241) [] []) [] mem=some (Dl,mem):=by
 have h:cv (C0 u) 70 (.fn (.func 241) [] []) [] mem=some (Dl,mem.back ((⟨mem.ε,[]⟩:Mem).back ⟨mem.ε,[]⟩)):=by kernel_rfl
 rw[show(⟨mem.ε,[]⟩:Mem).back ⟨mem.ε,[]⟩=⟨mem.ε,[]⟩from yX _,yX]at h;exact h
theorem t244(u:Nat)(mem:Mem):cv (C0 u) 70 (.fn (.func 244) [] []) [] mem=some (Dm,mem):=by
 have h:cv (C0 u) 70 (.fn (.func 244) [] []) [] mem=some (Dm,mem.back ((⟨mem.ε,[]⟩:Mem).back ⟨mem.ε,[]⟩)):=by kernel_rfl
 rw[show(⟨mem.ε,[]⟩:Mem).back ⟨mem.ε,[]⟩=⟨mem.ε,[]⟩from yX _,yX]at h;exact h
theorem Mq{base u:Nat}(n:Nat):∀p,jm n=some p->PQ base (gl u) n p:=
 pl ⟨Mf (Ii base u 70) (t240 u),yI (Mg Dk),_,Tryz.func240,by rfl,by kernel_rfl⟩ (pl ⟨Mf (Ii base u 70) (t241 u),yI (Mg Dl),_,Tryz.func241,by rfl,by kernel_rfl⟩
  (pl ⟨Mf (Ii base u 70) (t244 u),yI (Mg Dm),_,Tryz.func244,by rfl,by kernel_rfl⟩ (HL n)))
theorem UA(base u:Nat):Dt Fence.wide Ψ base (C u):= {
 fs f g h:=P0 f g h
 jm f p h:=(Mq (base:=base) (u:=u) f p h).ok
 HM f p h:=(Mq (base:=base) (u:=u) f p h).km
 Mp f p h:= .inl (Mq (base:=base) (u:=u) f p h).fn}
theorem Uz(base u k:Nat):np Fence.wide Ψ base (l_ Ψ) (gl u) (cv (C u) k):=Ps (fun _=>trivial) rfl rfl (UA base u) k
end Go.ah.Tz
