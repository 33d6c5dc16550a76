import Derived.Test.YtiigojkfojnedaaGreatDoorRZw
import Derived.Test.YtiigojkfojnedaaGreatDoorRZka
set_option linter.all false
set_option maxRecDepth 100000
set_option maxHeartbeats 8000000
open Go.Proofs.Tryz renaming prog->Φ,func109->alk,func238->alm,func174->aln,func277->alo,func106->alp,func111->alr,func269->als
open Go.World renaming freeze->alq
open Nat renaming le_refl->b_,beq->f_,eq_of_beq_eq_true->ER
open Option.some renaming injEq->a_
open Prod.mk renaming injEq->az
namespace Go.Δ.Tz
open Go.Δ Go.Proofs
open Go.RowKit (Below)
section
variable{base:Nat}{LC:eS}
theorem agh{gl:Nat->AV}:ml Fence.wide Φ base LC gl 109 xo:=
 afx alk (by rfl) (by kernel_rfl) fun i hi w=>Tryz.strconv_Itoa_small i hi w
theorem agk{gl:Nat->AV}:ml Fence.wide Φ base LC gl 238 xn:=
 afw alm (by rfl) (by kernel_rfl) fun s c w=>Tryz.strings_IndexByte s c w
theorem agj{gl:Nat->AV}:ml Fence.wide Φ base LC gl 174 xp:=
 afy aln (by rfl) (by kernel_rfl) Tryz.strings_Join_none fun bk o c xs sep w h1 h2 h3 h4 h5=>Tryz.strings_Join bk o c xs sep w h1 h2 h3 h4 h5
theorem agm{gl:Nat->AV}:ml Fence.wide Φ base LC gl 277 xm:=
 afv alo (by rfl) (by kernel_rfl) fun b es clock w h=>afa b es clock w h
theorem agf{gl:Nat->AV}:ml Fence.wide Φ base LC gl 106 (xt 150 5):=
 afA alp (by rfl) (by kernel_rfl) fun b s p v r q w h1 h2 h3 h4 h5=>writeString b s p v r q w h1 h2 h3 h4 h5
theorem aay(w:World)(g n k:Nat)(h:k≠g):(w.freeze ⟨g,0,none⟩ n).heap[k]?=w.heap[k]?:=by
 unfold alq;split
 ·rfl
 ·simp only[Array.getElem?_modify];rw[if_neg (fun e=>h e.symm)]
theorem aaz(w:World)(g n:Nat):(w.freeze ⟨g,0,none⟩ n).heap.size=w.heap.size/\(w.freeze ⟨g,0,none⟩ n).os=w.os/\(w.freeze ⟨g,0,none⟩ n).tape=w.tape/\(w.freeze ⟨g,0,none⟩ n).output=w.output:=by
 unfold alq;split
 ·exact⟨rfl,rfl,rfl,rfl⟩
 ·exact⟨by simp,rfl,rfl,rfl⟩
theorem agi{gl:Nat->AV}:ml Fence.wide Φ base LC gl 111 (xq 150 5):=by
 refine afz alr (by rfl) (by kernel_rfl) fun b p v r q w hb hH wV hq=>?_;rcases hH with⟨rfl,rfl,rfl⟩|⟨g,cap,cur,rfl,rfl,φ,hg,iZ,kW,C6,jr⟩
 ·refine(Yd b p w hb).mono fun e w' he=>?_;obtain⟨rfl,rfl⟩:=he;exact⟨_,rfl,rfl,b_ _,rfl,rfl,rfl,fun _ _ _=>rfl⟩
 ·have Uw:((q.map UInt8.ofNat).map UInt8.toNat)=q:=by
   have h1:q.map (UInt8.toNat∘UInt8.ofNat)=q.map id:=List.map_congr_left fun x hx=>by have:=hq x hx;simp only[Function.comp,id,UInt8.toNat_ofNat'];omega
   rw[List.map_map,h1,List.map_id]
  have hl:(q.map UInt8.ofNat).length=q.length:=by simp
  refine(Ye b g cap p cur (q.map UInt8.ofNat) w (by simpa using φ) (by rw[hl];exact hb) hg iZ (by rw[hl];exact kW) C6 (fun j x hx=>?_)).mono fun e w' he=>?_
  ·have hj:j<q.length:=by have:=(List.getElem?_eq_some_iff.1 hx).1;simpa using this
   have gj:x=UInt8.ofNat q[j]:=by rw[List.getElem?_map,List.getElem?_eq_getElem hj]at hx;simpa using hx.symm
   have:=hq q[j] (List.getElem_mem hj);rw[jr j hj,gj,UInt8.toNat_ofNat'];congr 3;omega
  ·obtain⟨rfl,rfl⟩:=he;obtain⟨k1,k2,k3,k4⟩:=aaz w.drew g (q.map UInt8.ofNat).length;refine⟨_,rfl,by simpa using Uw,by rw[k1];exact b_ _,k2,k3,k4,fun k hk hr=>?_⟩;rw[aay _ _ _ _ (fun e=>hr (by rw[e]))];rfl
theorem agl{u:Nat}:ml Fence.wide Φ base LC (gl u) 269 (ux 350):=by
 refine afu 350 als (by rfl) (by kernel_rfl) (fun s n hs hn w=>(Tryz.strconv_Atoi s n hs hn w).mono fun e w' he=>?_) (fun w g eB cx=>?_)
 ·obtain⟨rfl,t,rfl⟩:=he;exact⟨rfl,Lib.bytesWorld_below _ _ _⟩
 ·have h8:VR g bP (.ref [.iface u .cR]) (.pointer (some ⟨8,0,none⟩)):=eB 8;obtain⟨x,hx⟩:∃x,w.cell? ⟨8,0,none⟩=some (.iface u x):=by
   cases h8 with
   |ref _ _ _ _ xs hi hv=>
    have h0:=hv 0 (by simp)
    have h1:=(hi 0 (by simp)).1;simp only[List.getElem_cons_zero]at h0;cases hx:xs 0<;>rw[hx]at h0<;>(try(cases h0;done));cases h0;rw[hx]at h1;exact⟨_,cx _ _ _ h1⟩
  refine(Tryz.strconv_Atoi_err .empty (by decide) (by decide) _ w hx (.inr ⟨_,_,rfl⟩)).mono fun e w' he=>?_;obtain⟨N,rfl,_,_,hB⟩:=he;exact⟨N,rfl,hB⟩
end
theorem ce{α:Type}{b:Bool}{x y:Option α}{Q:α->Prop}(hx:∀g,x=some g->Q g)(hy:∀g,y=some g->Q g):∀g,cond b x y=some g->Q g:=by
 cases b with
 |true=>exact hx
 |false=>exact hy
theorem cl{n k:Nat}{gk:AF}{P:Program}(h:aG P k gk):∀g,cond (f_ n k) (some gk) none=some g->aG P n g:=by
 intro g hg;cases hb:f_ n k with
 |true=>
  rw[hb]at hg
  cases hg;rw[ER hb];exact h
 |false=>rw[hb]at hg;cases hg
theorem Se(n:Nat):∀g,fs n=some g->aG Φ n g:=
 ce (ce (ce (ce (ce (ce (ce (cl HV) (cl k19)) (ce (cl k25) (cl k26))) (ce (ce (cl k29) (cl k32)) (ce (cl k35) (cl k36)))) (ce (ce (ce (cl k39) (cl k43)) (ce (cl k56) (cl k65))) (ce (ce (cl k66) (cl k70)) (ce (cl k72) (cl k73))))) (ce (ce (ce (ce (cl k74) (cl k76)) (ce (cl k83) (cl k85))) (ce (ce (cl k86) (cl acr)) (ce (cl acs) (cl acu)))) (ce (ce (ce (cl acv) (cl acw)) (ce (cl acx) (cl acy))) (ce (ce (cl acz) (cl acA)) (ce (cl acB) (cl acC)))))) (ce (ce (ce (ce (ce (cl acD) (cl acE)) (ce (cl acF) (cl acG))) (ce (ce (cl acH) (cl acI)) (ce (cl acJ) (cl acK)))) (ce (ce (ce (cl acL) (cl acM)) (ce (cl acN) (cl acO))) (ce (ce (cl acP) (cl acQ)) (ce (cl acR) (cl acS))))) (ce (ce (ce (ce (cl acT) (cl acU)) (ce (cl acV) (cl acW))) (ce (ce (cl acX) (cl acY)) (ce (cl acZ) (cl ac0)))) (ce (ce (ce (cl ac1) (cl ac2)) (ce (cl ac3) (cl ac4))) (ce (ce (cl ac5) (cl ac6)) (ce (cl ac7) (cl ac8))))))) (ce (ce (ce (ce (ce (ce (cl ac9) (cl ac_)) (ce (cl ac') (cl ada))) (ce (ce (cl adb) (cl ade)) (ce (cl adf) (cl adg)))) (ce (ce (ce (cl adh) (cl adi)) (ce (cl adj) (cl adk))) (ce (ce (cl adl) (cl adm)) (ce (cl adn) (cl ado))))) (ce (ce (ce (ce (cl adp) (cl adq)) (ce (cl adr) (cl ads))) (ce (ce (cl adt) (cl adu)) (ce (cl adv) (cl adw)))) (ce (ce (ce (cl adx) (cl ady)) (ce (cl adz) (cl adA))) (ce (ce (cl adB) (cl adC)) (ce (cl adD) (cl adE)))))) (ce (ce (ce (ce (ce (cl adF) (cl adG)) (ce (cl adH) (cl adI))) (ce (ce (cl adJ) (cl adK)) (ce (cl adL) (cl adM)))) (ce (ce (ce (cl adN) (cl adO)) (ce (cl adP) (cl adQ))) (ce (ce (cl adR) (cl adS)) (ce (cl adT) (cl adU))))) (ce (ce (ce (ce (cl adV) (cl adW)) (ce (cl adX) (cl adY))) (ce (ce (cl adZ) (cl ad0)) (ce (cl ad1) (cl ad2)))) (ce (ce (ce (cl ad3) (cl ad4)) (ce (cl ad5) (cl ad6))) (ce (ce (cl ad7) (cl ad8)) (ce (cl ad9) (ce (cl ad_) (cl ad'))))))))
theorem PA(n:Nat):∀g,alts n=some g->aG Φ n g:=
 cl aej
structure PQ (base:Nat) (gl:Nat->AV) (f:Nat) (p:Prim):Prop where
 ok:ml Fence.wide Φ base (me Φ) gl f p
 km:∀args m r m',p args m=some (r,m')->KM m m'
 fn:∃fn,Φ.funcs[f]?=some fn/\fn.body.isNone=false/\(fn.name== "runtime.NumGoroutine")=false
theorem pl{base:Nat}{gl:Nat->AV}{n k:Nat}{pk:Prim}{y:Option Prim}(h:PQ base gl k pk)(hy:∀p,y=some p->PQ base gl n p):∀p,cond (f_ n k) (some pk) y=some p->PQ base gl n p:=by
 intro p hp;cases hb:f_ n k with
 |true=>
  rw[hb]at hp
  cases hp;rw[ER hb];exact h
 |false=>rw[hb]at hp;exact hy p hp
theorem zA{p:Prim}(h:∀args m r m',p args m=some (r,m')->m'=m):∀args m r m',p args m=some (r,m')->KM m m':=fun args m r m' hr=>by rw[h args m r m' hr];exact KM.refl m
theorem agq:∀args m r m',xo args m=some (r,m')->m'=m:=by
 intro args m r m' h;unfold xo at h
 (repeat' split at h)<;>first|(cases h;done)|(simp only[a_,az]at h;exact h.2.symm)
theorem agn(te:TypeId):∀args m r m',ux te args m=some (r,m')->m'=m:=by
 intro args m r m' h;unfold ux at h
 (repeat' split at h)<;>first
  |(cases h;done)
  |(simp only[a_,az]at h;exact h.2.symm)
  |(simp only[Option.map_eq_some_iff,az]at h;obtain⟨_,_,_,h⟩:=h;exact h.symm)
theorem agr:∀args m r m',xp args m=some (r,m')->m'=m:=by
 intro args m r m' h;unfold xp at h
 (repeat' split at h)<;>first|(cases h;done)|(simp only[a_,az]at h;exact h.2.symm)
theorem agp:∀args m r m',xn args m=some (r,m')->m'=m:=by
 intro args m r m' h;unfold xn at h;split at h
 ·split at h
  ·simp only[a_,az]at h;exact h.2.symm
  ·cases h
 ·cases h
theorem Om(v:AV):∀args m r m',uy v args m=some (r,m')->m'=m:=by
 intro args m r m' h;unfold uy at h
 (repeat' split at h)<;>first|(cases h;done)|(simp only[a_,az]at h;exact h.2.symm)
theorem IP{base u:Nat}(n:Nat):∀p,Oz n=some p->PQ base (gl u) n p:=
 pl ⟨agh,zA agq,_,alk,by rfl,by kernel_rfl⟩ (pl ⟨agl,zA (agn 350),_,als,by rfl,by kernel_rfl⟩ (pl ⟨agf,agt 150 5,_,alp,by rfl,by kernel_rfl⟩
  (pl ⟨agi,ags 150 5,_,alr,by rfl,by kernel_rfl⟩ (pl ⟨agj,zA agr,_,aln,by rfl,by kernel_rfl⟩ (pl ⟨agk,zA agp,_,alm,by rfl,by kernel_rfl⟩
   (pl ⟨agm,ago,_,alo,by rfl,by kernel_rfl⟩ (fun p hp=>by cases hp)))))))
theorem Xz(base u:Nat):EO Fence.wide Φ base (C0 u):= {
 fs f g h:=Se f g h
 alts f g h:=PA f g h
 gM f p h:=(IP (base:=base) (u:=u) f p h).ok
 Ed f p h:=(IP (base:=base) (u:=u) f p h).km
 OA f p h:= .inl (IP (base:=base) (u:=u) f p h).fn}
theorem Jo(base u k:Nat):np Fence.wide Φ base (me Φ) (gl u) (cv (C0 u) k):=Rn (fun _=>trivial) rfl rfl (Xz base u) k
theorem t240(u:Nat)(mem:Mem):cv (C0 u) 70 (.fn (.func 240) [] []) [] mem=some (EE,mem):=by
 have h:cv (C0 u) 70 (.fn (.func 240) [] []) [] mem=some (EE,mem.back ((⟨mem.ε,[]⟩:Mem).back ⟨mem.ε,[]⟩)):=by kernel_rfl
 rw[show(⟨mem.ε,[]⟩:Mem).back ⟨mem.ε,[]⟩=⟨mem.ε,[]⟩from Ac _,Ac]at h;exact h
theorem t241(u:Nat)(mem:Mem):cv (C0 u) 70 (.fn (.func 241) [] []) [] mem=some (EF,mem):=by
 have h:cv (C0 u) 70 (.fn (.func 241) [] []) [] mem=some (EF,mem.back ((⟨mem.ε,[]⟩:Mem).back ⟨mem.ε,[]⟩)):=by kernel_rfl
 rw[show(⟨mem.ε,[]⟩:Mem).back ⟨mem.ε,[]⟩=⟨mem.ε,[]⟩from Ac _,Ac]at h;exact h
theorem t244(u:Nat)(mem:Mem):cv (C0 u) 70 (.fn (.func 244) [] []) [] mem=some (EG,mem):=by
 have h:cv (C0 u) 70 (.fn (.func 244) [] []) [] mem=some (EG,mem.back ((⟨mem.ε,[]⟩:Mem).back ⟨mem.ε,[]⟩)):=by kernel_rfl
 rw[show(⟨mem.ε,[]⟩:Mem).back ⟨mem.ε,[]⟩=⟨mem.ε,[]⟩from Ac _,Ac]at h;exact h
theorem OB{base u:Nat}(n:Nat):∀p,gM n=some p->PQ base (gl u) n p:=
 pl ⟨Oi (Jo base u 70) (t240 u),zA (Om EE),_,Tryz.func240,by rfl,by kernel_rfl⟩ (pl ⟨Oi (Jo base u 70) (t241 u),zA (Om EF),_,Tryz.func241,by rfl,by kernel_rfl⟩
  (pl ⟨Oi (Jo base u 70) (t244 u),zA (Om EG),_,Tryz.func244,by rfl,by kernel_rfl⟩ (IP n)))
theorem XB(base u:Nat):EO Fence.wide Φ base (C u):= {
 fs f g h:=Se f g h
 alts f g h:=PA f g h
 gM f p h:=(OB (base:=base) (u:=u) f p h).ok
 Ed f p h:=(OB (base:=base) (u:=u) f p h).km
 OA f p h:= .inl (OB (base:=base) (u:=u) f p h).fn}
theorem XA(base u k:Nat):np Fence.wide Φ base (me Φ) (gl u) (cv (C u) k):=Rn (fun _=>trivial) rfl rfl (XB base u) k
end Go.Δ.Tz
