import Derived.Test.YtiigojkfojnedaaGreatDoorPZw
import Derived.Test.YtiigojkfojnedaaGreatDoorPZka
set_option linter.unusedVariables false
set_option linter.unusedSimpArgs false
open Go.Proofs.Tryz renaming prog->Φ,func109->aii,func238->aij,func174->aik,func277->ail,func106->aim,func111->aio,func269->aip
open Go.World renaming freeze->ain
open Nat renaming le_refl->bQ,beq->fW,eq_of_beq_eq_true->DB
open Option.some renaming injEq->bj
open Prod.mk renaming injEq->aL
set_option maxRecDepth 100000
namespace Go.ab.Tz
open Go.ab Go.Proofs
open Go.RowKit (Below)
section
variable{base:Nat}{LC:eX}
theorem aeF{gl:Nat->AV}:mC Fence.wide Φ base LC gl 109 wQ:=
 adZ aii (by rfl) (by kernel_rfl) fun i hi w=>Tryz.strconv_Itoa_small i hi w
theorem aeI{gl:Nat->AV}:mC Fence.wide Φ base LC gl 238 wP:=
 adY aij (by rfl) (by kernel_rfl) fun s c w=>Tryz.strings_IndexByte s c w
theorem aeH{gl:Nat->AV}:mC Fence.wide Φ base LC gl 174 wR:=
 ad0 aik (by rfl) (by kernel_rfl) Tryz.strings_Join_none fun bk o c xs sep w h1 h2 h3 h4 h5=>Tryz.strings_Join bk o c xs sep w h1 h2 h3 h4 h5
theorem aeK{gl:Nat->AV}:mC Fence.wide Φ base LC gl 277 wO:=
 adX ail (by rfl) (by kernel_rfl) fun b es clock w h=>adD b es clock w h
theorem aeE{gl:Nat->AV}:mC Fence.wide Φ base LC gl 106 (wT 150 5):=
 ad2 aim (by rfl) (by kernel_rfl) fun b s p v r q w h1 h2 h3 h4 h5=>writeString b s p v r q w h1 h2 h3 h4 h5
theorem X1(w:World)(g n k:Nat)(h:k≠g):(w.freeze ⟨g,0,none⟩ n).heap[k]?=w.heap[k]?:=by
 unfold ain;split
 ·rfl
 ·simp only[Array.getElem?_modify];rw[if_neg (fun e=>h e.symm)]
theorem X2(w:World)(g n:Nat):(w.freeze ⟨g,0,none⟩ n).heap.size=w.heap.size/\(w.freeze ⟨g,0,none⟩ n).os=w.os/\(w.freeze ⟨g,0,none⟩ n).tape=w.tape/\(w.freeze ⟨g,0,none⟩ n).output=w.output:=by
 unfold ain;split
 ·exact⟨rfl,rfl,rfl,rfl⟩
 ·exact⟨by simp,rfl,rfl,rfl⟩
theorem aeG{gl:Nat->AV}:mC Fence.wide Φ base LC gl 111 (wS 150 5):=by
 refine ad1 aio (by rfl) (by kernel_rfl) fun b p v r q w hb dn wu hq=>?_;rcases dn with⟨rfl,rfl,rfl⟩|⟨g,cap,cur,rfl,rfl,aj,hg,fw,ll,vW,fR⟩
 ·refine(V1 b p w hb).mono fun e w' he=>?_;obtain⟨rfl,rfl⟩:=he;exact⟨_,rfl,rfl,bQ _,rfl,rfl,rfl,fun _ _ _=>rfl⟩
 ·have RT:((q.map UInt8.ofNat).map UInt8.toNat)=q:=by
   have h1:q.map (UInt8.toNat∘UInt8.ofNat)=q.map id:=List.map_congr_left fun x hx=>by have:=hq x hx;simp only[Function.comp,id,UInt8.toNat_ofNat'];omega
   rw[List.map_map,h1,List.map_id]
  have hl:(q.map UInt8.ofNat).length=q.length:=by simp
  refine(V2 b g cap p cur (q.map UInt8.ofNat) w (by simpa using aj) (by rw[hl];exact hb) hg fw (by rw[hl];exact ll) vW (fun j x hx=>?_)).mono fun e w' he=>?_
  ·have hj:j<q.length:=by have:=(List.getElem?_eq_some_iff.1 hx).1;simpa using this
   have fS:x=UInt8.ofNat q[j]:=by rw[List.getElem?_map,List.getElem?_eq_getElem hj]at hx;simpa using hx.symm
   have:=hq q[j] (List.getElem_mem hj);rw[fR j hj,fS,UInt8.toNat_ofNat'];congr 3;omega
  ·obtain⟨rfl,rfl⟩:=he;obtain⟨k1,k2,k3,k4⟩:=X2 w.drew g (q.map UInt8.ofNat).length;refine⟨_,rfl,by simpa using RT,by rw[k1];exact bQ _,k2,k3,k4,fun k hk hr=>?_⟩;rw[X1 _ _ _ _ (fun e=>hr (by rw[e]))];rfl
theorem aeJ{u:Nat}:mC Fence.wide Φ base LC (gl u) 269 (tW 350):=by
 refine adW 350 aip (by rfl) (by kernel_rfl) (fun s n hs hn w=>(Tryz.strconv_Atoi s n hs hn w).mono fun e w' he=>?_) (fun w g eB cJ=>?_)
 ·obtain⟨rfl,t,rfl⟩:=he;exact⟨rfl,Lib.bytesWorld_below _ _ _⟩
 ·have h8:VR g cd (.ref [.iface u .dd]) (.pointer (some ⟨8,0,none⟩)):=eB 8;obtain⟨x,hx⟩:∃x,w.cell? ⟨8,0,none⟩=some (.iface u x):=by
   cases h8 with
   |ref _ _ _ _ xs hi hv=>
    have h0:=hv 0 (by simp)
    have h1:=(hi 0 (by simp)).1;simp only[List.getElem_cons_zero]at h0;cases hx:xs 0<;>rw[hx]at h0<;>(try(cases h0;done));cases h0;rw[hx]at h1;exact⟨_,cJ _ _ _ h1⟩
  refine(Tryz.strconv_Atoi_err .empty (by decide) (by decide) _ w hx (.inr ⟨_,_,rfl⟩)).mono fun e w' he=>?_;obtain⟨N,rfl,_,_,hB⟩:=he;exact⟨N,rfl,hB⟩
end
theorem ce{α:Type}{b:Bool}{x y:Option α}{Q:α->Prop}(hx:∀g,x=some g->Q g)(hy:∀g,y=some g->Q g):∀g,cond b x y=some g->Q g:=by
 cases b with
 |true=>exact hx
 |false=>exact hy
theorem cl{n k:Nat}{gk:AF}{P:Program}(h:az P k gk):∀g,cond (fW n k) (some gk) none=some g->az P n g:=by
 intro g hg;cases hb:fW n k with
 |true=>
  rw[hb]at hg
  cases hg;rw[DB hb];exact h
 |false=>rw[hb]at hg;cases hg
theorem Qt(n:Nat):∀g,fs n=some g->az Φ n g:=
 ce (ce (ce (ce (ce (ce (ce (cl k7) (cl k19)) (ce (cl k22) (cl k23))) (ce (ce (cl k25) (cl k26)) (ce (cl k27) (ce (cl k28) (cl k32))))) (ce (ce (ce (cl k39) (cl k43)) (ce (cl k52) (ce (cl k53) (cl k54)))) (ce (ce (cl k55) (cl k56)) (ce (cl k57) (ce (cl k58) (cl k65)))))) (ce (ce (ce (ce (cl k66) (cl k70)) (ce (cl k72) (cl k80))) (ce (ce (cl k85) (cl k88)) (ce (cl k99) (ce (cl aa2) (cl aa3))))) (ce (ce (ce (cl aa4) (cl aa5)) (ce (cl aa6) (ce (cl aa7) (cl aa8)))) (ce (ce (cl aa9) (cl aa_)) (ce (cl aa') (ce (cl aba) (cl abb))))))) (ce (ce (ce (ce (ce (cl abc) (cl abd)) (ce (cl abe) (cl abf))) (ce (ce (cl abg) (cl abh)) (ce (cl abi) (ce (cl abj) (cl abk))))) (ce (ce (ce (cl abl) (cl abm)) (ce (cl abn) (ce (cl abo) (cl abp)))) (ce (ce (cl abq) (cl abr)) (ce (cl abt) (ce (cl abu) (cl abv)))))) (ce (ce (ce (ce (cl abw) (cl abx)) (ce (cl aby) (ce (cl abz) (cl abA)))) (ce (ce (cl abB) (cl abC)) (ce (cl abD) (ce (cl abE) (cl abF))))) (ce (ce (ce (cl abG) (cl abH)) (ce (cl abI) (ce (cl abJ) (cl abK)))) (ce (ce (cl abL) (cl abM)) (ce (cl abN) (ce (cl abO) (cl abP)))))))) (ce (ce (ce (ce (ce (ce (cl abQ) (cl abR)) (ce (cl abS) (cl abT))) (ce (ce (cl abU) (cl abV)) (ce (cl abW) (ce (cl abX) (cl abY))))) (ce (ce (ce (cl abZ) (cl ab0)) (ce (cl ab1) (ce (cl ab2) (cl ab3)))) (ce (ce (cl ab4) (cl ab5)) (ce (cl ab6) (ce (cl ab7) (cl ab8)))))) (ce (ce (ce (ce (cl ab9) (cl ab_)) (ce (cl ab') (ce (cl aca) (cl acb)))) (ce (ce (cl acd) (cl ace)) (ce (cl acf) (ce (cl acg) (cl ach))))) (ce (ce (ce (cl aci) (cl acj)) (ce (cl ack) (ce (cl acm) (cl acn)))) (ce (ce (cl aco) (cl acp)) (ce (cl acq) (ce (cl acr) (cl acs))))))) (ce (ce (ce (ce (ce (cl acu) (cl acv)) (ce (cl acw) (cl acx))) (ce (ce (cl acy) (cl acz)) (ce (cl acA) (ce (cl acB) (cl acC))))) (ce (ce (ce (cl acD) (cl acE)) (ce (cl acF) (ce (cl acG) (cl acH)))) (ce (ce (cl acI) (cl acJ)) (ce (cl acK) (ce (cl acL) (cl acM)))))) (ce (ce (ce (ce (cl acN) (cl acO)) (ce (cl acP) (ce (cl acQ) (cl acR)))) (ce (ce (cl acS) (cl acT)) (ce (cl acU) (ce (cl acV) (cl acW))))) (ce (ce (ce (cl acX) (cl acY)) (ce (cl acZ) (ce (cl ac0) (cl ac1)))) (ce (ce (cl ac2) (cl ac3)) (ce (cl ac4) (ce (cl ac5) (cl ac6))))))))
structure PQ (base:Nat) (gl:Nat->AV) (f:Nat) (p:Prim):Prop where
 ok:mC Fence.wide Φ base (mA Φ) gl f p
 km:∀args m r m',p args m=some (r,m')->KM m m'
 fn:∃fn,Φ.funcs[f]?=some fn/\fn.body.isNone=false/\(fn.name== "runtime.NumGoroutine")=false
theorem pl{base:Nat}{gl:Nat->AV}{n k:Nat}{pk:Prim}{y:Option Prim}(h:PQ base gl k pk)(hy:∀p,y=some p->PQ base gl n p):∀p,cond (fW n k) (some pk) y=some p->PQ base gl n p:=by
 intro p hp;cases hb:fW n k with
 |true=>
  rw[hb]at hp
  cases hp;rw[DB hb];exact h
 |false=>rw[hb]at hp;exact hy p hp
theorem yT{p:Prim}(h:∀args m r m',p args m=some (r,m')->m'=m):∀args m r m',p args m=some (r,m')->KM m m':=fun args m r m' hr=>by rw[h args m r m' hr];exact KM.refl m
theorem aeO:∀args m r m',wQ args m=some (r,m')->m'=m:=by
 intro args m r m' h;unfold wQ at h
 (repeat' split at h)<;>first|(cases h;done)|(simp only[bj,aL]at h;exact h.2.symm)
theorem aeL(te:TypeId):∀args m r m',tW te args m=some (r,m')->m'=m:=by
 intro args m r m' h;unfold tW at h
 (repeat' split at h)<;>first
  |(cases h;done)
  |(simp only[bj,aL]at h;exact h.2.symm)
  |(simp only[Option.map_eq_some_iff,aL]at h;obtain⟨_,_,_,h⟩:=h;exact h.symm)
theorem aeP:∀args m r m',wR args m=some (r,m')->m'=m:=by
 intro args m r m' h;unfold wR at h
 (repeat' split at h)<;>first|(cases h;done)|(simp only[bj,aL]at h;exact h.2.symm)
theorem aeN:∀args m r m',wP args m=some (r,m')->m'=m:=by
 intro args m r m' h;unfold wP at h;split at h
 ·split at h
  ·simp only[bj,aL]at h;exact h.2.symm
  ·cases h
 ·cases h
theorem Mz(v:AV):∀args m r m',tX v args m=some (r,m')->m'=m:=by
 intro args m r m' h;unfold tX at h
 (repeat' split at h)<;>first|(cases h;done)|(simp only[bj,aL]at h;exact h.2.symm)
theorem HY{base u:Nat}(n:Nat):∀p,MI n=some p->PQ base (gl u) n p:=
 pl ⟨aeF,yT aeO,_,aii,by rfl,by kernel_rfl⟩ (pl ⟨aeJ,yT (aeL 350),_,aip,by rfl,by kernel_rfl⟩ (pl ⟨aeE,aeR 150 5,_,aim,by rfl,by kernel_rfl⟩
  (pl ⟨aeG,aeQ 150 5,_,aio,by rfl,by kernel_rfl⟩ (pl ⟨aeH,yT aeP,_,aik,by rfl,by kernel_rfl⟩ (pl ⟨aeI,yT aeN,_,aij,by rfl,by kernel_rfl⟩
   (pl ⟨aeK,aeM,_,ail,by rfl,by kernel_rfl⟩ (fun p hp=>by cases hp)))))))
theorem Vb(base u:Nat):Dx Fence.wide Φ base (C0 u):= {
 fs f g h:=Qt f g h
 jG f p h:=(HY (base:=base) (u:=u) f p h).ok
 HZ f p h:=(HY (base:=base) (u:=u) f p h).km
 MJ f p h:= .inl (HY (base:=base) (u:=u) f p h).fn}
theorem Iy(base u k:Nat):nJ Fence.wide Φ base (mA Φ) (gl u) (cv (C0 u) k):=PX (fun _=>trivial) rfl rfl (Vb base u) k
theorem t240(u:Nat)(mem:Mem):cv (C0 u) 70 (.fn (.func 240) [] []) [] mem=some (Dn,mem):=by
 have h:cv (C0 u) 70 (.fn (.func 240) [] []) [] mem=some (Dn,mem.back ((⟨mem.ε,[]⟩:Mem).back ⟨mem.ε,[]⟩)):=by kernel_rfl
 rw[show(⟨mem.ε,[]⟩:Mem).back ⟨mem.ε,[]⟩=⟨mem.ε,[]⟩from zc _,zc]at h;exact h
theorem t241(u:Nat)(mem:Mem):cv (C0 u) 70 (.fn (.func 241) [] []) [] mem=some (Dp,mem):=by
 have h:cv (C0 u) 70 (.fn (.func 241) [] []) [] mem=some (Dp,mem.back ((⟨mem.ε,[]⟩:Mem).back ⟨mem.ε,[]⟩)):=by kernel_rfl
 rw[show(⟨mem.ε,[]⟩:Mem).back ⟨mem.ε,[]⟩=⟨mem.ε,[]⟩from zc _,zc]at h;exact h
theorem t244(u:Nat)(mem:Mem):cv (C0 u) 70 (.fn (.func 244) [] []) [] mem=some (Dq,mem):=by
 have h:cv (C0 u) 70 (.fn (.func 244) [] []) [] mem=some (Dq,mem.back ((⟨mem.ε,[]⟩:Mem).back ⟨mem.ε,[]⟩)):=by kernel_rfl
 rw[show(⟨mem.ε,[]⟩:Mem).back ⟨mem.ε,[]⟩=⟨mem.ε,[]⟩from zc _,zc]at h;exact h
theorem MK{base u:Nat}(n:Nat):∀p,jG n=some p->PQ base (gl u) n p:=
 pl ⟨My (Iy base u 70) (t240 u),yT (Mz Dn),_,Tryz.func240,by rfl,by kernel_rfl⟩ (pl ⟨My (Iy base u 70) (t241 u),yT (Mz Dp),_,Tryz.func241,by rfl,by kernel_rfl⟩
  (pl ⟨My (Iy base u 70) (t244 u),yT (Mz Dq),_,Tryz.func244,by rfl,by kernel_rfl⟩ (HY n)))
theorem Vd(base u:Nat):Dx Fence.wide Φ base (C u):= {
 fs f g h:=Qt f g h
 jG f p h:=(MK (base:=base) (u:=u) f p h).ok
 HZ f p h:=(MK (base:=base) (u:=u) f p h).km
 MJ f p h:= .inl (MK (base:=base) (u:=u) f p h).fn}
theorem Vc(base u k:Nat):nJ Fence.wide Φ base (mA Φ) (gl u) (cv (C u) k):=PX (fun _=>trivial) rfl rfl (Vd base u) k
end Go.ab.Tz
