import Derived.Test.YtiigojkfojnedaaGreatDoorQHw
set_option linter.unusedVariables false
set_option linter.unusedSimpArgs false
set_option linter.unusedSectionVars false
set_option maxRecDepth 100000
set_option maxHeartbeats 8000000
open List renaming nil_append->cI,cons_append->eO,map_cons->ay,map_nil->aA,append_assoc->cj,getElem?_eq_getElem->dr,append_nil->dW,length_append->fu,getElem_mem->cL,take_succ_eq_append_getElem->wZ,length_cons->eZ,length_nil->lK,take_length->mL,length_take->mf,map_append->qn,length_map->dd
open Go.IntKind renaming wrap->a_
open Nat renaming le_refl->bF
namespace Go.ah.Tz
open Go.ah
variable{u:Nat}
attribute [local simp] exec ed dP eX aC dQ ft eL ζ gg τ fW gy gH gI AV.cells newVar gE rd wr fK single eV ek dF μ aY RV.get aV dB iE vI
theorem f171{id:Nat}(x:δ)(m:Mem)(hid:m.ε[id]?=some (.cells x.cells))(ab:x.size.Ok)(hs:uU x.size)(hn:x.name.length<=8):
  aU (C u) (.fn (.func 171) [] [.ν id 0]) [] m=some (.str (x.name++[91]++x.size.text++[93]),m):=by
 have ρ:=rT hid;refine rN (g:=E3) rfl rfl rfl ?_;simp only[cI,eO,ay,aA,exp,ρ,if_true,E3,c171];have e:=fun m=>Et (u:=u) x.size ab hs m;have hl:=qX hs;have k2:=nx x;have k4:=pg x;have kl:=δ.jT x;generalize x.size.text=t at*;have a1:bY .add x.name [91]=some (.str (x.name++[91])):=d_ (by simp;omega);have a2:bY .add (x.name++[91]) t=some (.str (x.name++[91]++t)):=d_ (by simp;omega);have a3:bY .add (x.name++[91]++t) [93]=some (.str (x.name++[91]++t++[93])):=d_ (by simp;omega);simp only[cj,eO,cI]at a1 a2 a3;simp[hid,k2,k4,kl,e,dm,dy,fm,AV.gz,AV.beq,a1,a2,a3]
theorem XB{g:Int}(h:1<=g/\g<=12):∃w,(bu.map AV.str)[(g-1).toNat]?=some (.str w)/\bu.getD (g-1).toNat []=w/\w.length<=4:=by
 obtain⟨k,hk⟩:∃k:Nat,(g-1).toNat=k:=⟨_,rfl⟩;rw[hk];have da:k<12:=by omega
 match k,da with
 |0,_|1,_|2,_|3,_|4,_|5,_|6,_|7,_|8,_|9,_|10,_|11,_=>exact⟨_,rfl,rfl,by decide⟩
section
variable{B:List κ}{x:δ}{s1:St}
variable(h1:ζ s1.env 1= .ν B.length 0)(h2:ζ s1.env 3= .fn (.func 171) [] [.ν B.length 0])(h3:s1.mem= {ε:=B++[.cells x.cells],θ:=[]})(hb:(B++[.cells x.cells])[B.length]?=some (.cells x.cells))
 (nX:uU x.size->x.name.length<=8->∀T,aU (C u) (.fn (.func 171) [] [.ν B.length 0]) [] {ε:=B++[.cells x.cells],θ:=T}=some (.str (x.name++[91]++x.size.text++[93]),{ε:=B++[.cells x.cells],θ:=T}))
 (mP:C2 x.pl->∀m,kf u 172 [.list x.cp (x.pl.map Γ.av)] m=some (.str (p_ x.pl),m))
 (es:uU x.size->∀m,kf u 114 [.agg x.size.four] m=some (.str x.size.text,m))
 (et:uU x.to->∀m,kf u 114 [.agg x.to.four] m=some (.str x.to.text,m))
 (hR:zK x.kind x.gate x.name x.pl x.size x.to)
 (k0:x.cells.take 1=[.int .i64 x.kind]) (k1:x.cells.tail.take 1=[.int .i64 x.gate]) (k2:(x.cells.drop 2).take 1=[.str x.name]) (k3:(x.cells.drop 3).take 1=[.list x.cp (x.pl.map Γ.av)]) (k4:(x.cells.drop 4).take 4=x.size.four) (k8:(x.cells.drop 8).take 4=x.to.four) (kl:x.cells.length=14)
include h1 h2 h3 hb nX mP es et hR k0 k1 k2 k3 k4 k8 kl
theorem afA(hk:x.kind=1):μ (C u).gl (aU (C u)) c107.snd.snd s1 (End iF B (.str (dv x.kind x.gate x.name x.pl x.size x.to))):=by
 obtain⟨qP,hg,hn,hp,hz,ht⟩:=hR;obtain⟨v,hv⟩:∃v,v=dv x.kind x.gate x.name x.pl x.size x.to:=⟨_,rfl⟩;rw[<-hv];simp only[dv]at hv;rw[hk]at k0;have e1:=mP (hp (by omega));have l1:=u4 (hp (by omega));obtain⟨gw,w1,w2,w3⟩:=XB (hg hk);have Y8:=hg hk;have Cy:a_ .i64 (x.gate-1)=x.gate-1:=wrap_i64 (by omega) (by omega);have QP:0<=x.gate-1/\x.gate-1<12:=by omega
 have di:(bu.map AV.str).length=12:=rfl;have Y7:(C u).gl 0= .ref [.list .any (bu.map AV.str)]:=zB;rw[w2]at hv;generalize bu.map AV.str=GW at*;generalize p_ x.pl=tp at*;have a1:bY .add (gw) ([32])=some (.str (gw++([32]))):=d_ (by simp;omega);have a2:bY .add (gw++([32])) (tp)=some (.str (gw++([32])++(tp))):=d_ (by simp;omega);simp only[cj,eO,cI]at a1 a2;have hi:(x.gate-1).toNat<GW.length:=by rw[di];omega
 have w1':GW[(x.gate-1).toNat]= .str gw:=by rw[dr hi]at w1;simpa using w1
 have pS:(x.gate-1).toNat=x.gate.toNat-1:=by omega
 have hq1:1<=x.gate:=Y8.1;have KY:x.gate-1<12:=by omega
 have oa:x.gate.toNat-1<GW.length:=by omega
 have w12:GW[x.gate.toNat-1]= .str gw:=by rw[pS,dr oa]at w1;simpa using w1
 have Ks:x.gate.toNat-1<12:=by omega
 simp[hk]at hv;subst hv;simp[c107,AC.snd,End,iF,h1,h2,h3,hb,kl,k0,dm,dy,fm,AV.gz,AV.beq,AV.ki,k1,k3,e1,Y7,di,Cy,hq1,KY,Ks,w12,a1,a2]
theorem afD(hk:x.kind=2):μ (C u).gl (aU (C u)) c107.snd.snd s1 (End iF B (.str (dv x.kind x.gate x.name x.pl x.size x.to))):=by obtain⟨qP,hg,hn,hp,hz,ht⟩:=hR;obtain⟨v,hv⟩:∃v,v=dv x.kind x.gate x.name x.pl x.size x.to:=⟨_,rfl⟩;rw[<-hv];simp only[dv]at hv;rw[hk]at k0;have e1:=nX (hz (by omega)) (hn (by omega));have l1:=qX (hz (by omega));have l2:=hn (by omega);generalize x.size.text=ts at*;have a1:bY .add ([116,97,107,101,32]) (x.name++[91]++ts++[93])=some (.str ([116,97,107,101,32]++(x.name++[91]++ts++[93]))):=d_ (by simp;omega);simp only[cj,eO,cI]at a1;simp only[cj,eO,cI]at e1;simp[hk]at hv;subst hv;simp[c107,AC.snd,End,iF,h1,h2,h3,hb,kl,k0,dm,dy,fm,AV.gz,AV.beq,AV.ki,e1,a1]
theorem afF(hk:x.kind=4):μ (C u).gl (aU (C u)) c107.snd.snd s1 (End iF B (.str (dv x.kind x.gate x.name x.pl x.size x.to))):=by obtain⟨qP,hg,hn,hp,hz,ht⟩:=hR;obtain⟨v,hv⟩:∃v,v=dv x.kind x.gate x.name x.pl x.size x.to:=⟨_,rfl⟩;rw[<-hv];simp only[dv]at hv;rw[hk]at k0;have e1:=nX (hz (by omega)) (hn (by omega));have l1:=qX (hz (by omega));have l2:=hn (by omega);generalize x.size.text=ts at*;have a1:bY .add ([98,111,114,114,111,119,32]) (x.name++[91]++ts++[93])=some (.str ([98,111,114,114,111,119,32]++(x.name++[91]++ts++[93]))):=d_ (by simp;omega);simp only[cj,eO,cI]at a1;simp only[cj,eO,cI]at e1;simp[hk]at hv;subst hv;simp[c107,AC.snd,End,iF,h1,h2,h3,hb,kl,k0,dm,dy,fm,AV.gz,AV.beq,AV.ki,e1,a1]
theorem afE(hk:x.kind=3):μ (C u).gl (aU (C u)) c107.snd.snd s1 (End iF B (.str (dv x.kind x.gate x.name x.pl x.size x.to))):=by obtain⟨qP,hg,hn,hp,hz,ht⟩:=hR;obtain⟨v,hv⟩:∃v,v=dv x.kind x.gate x.name x.pl x.size x.to:=⟨_,rfl⟩;rw[<-hv];simp only[dv]at hv;rw[hk]at k0;have l2:=hn (by omega);have a1:bY .add ([100,114,111,112,32]) (x.name)=some (.str ([100,114,111,112,32]++(x.name))):=d_ (by simp;omega);simp only[cj,eO,cI]at a1;simp[hk]at hv;subst hv;simp[c107,AC.snd,End,iF,h1,h2,h3,hb,kl,k0,dm,dy,fm,AV.gz,AV.beq,AV.ki,k2,a1]
theorem afG(hk:x.kind=5):μ (C u).gl (aU (C u)) c107.snd.snd s1 (End iF B (.str (dv x.kind x.gate x.name x.pl x.size x.to))):=by obtain⟨qP,hg,hn,hp,hz,ht⟩:=hR;obtain⟨v,hv⟩:∃v,v=dv x.kind x.gate x.name x.pl x.size x.to:=⟨_,rfl⟩;rw[<-hv];simp only[dv]at hv;rw[hk]at k0;have l2:=hn (by omega);have e1:=mP (hp (by omega));have l1:=u4 (hp (by omega));generalize p_ x.pl=tp at*;have a1:bY .add ([109,101,97,115,117,114,101,32]) (tp)=some (.str ([109,101,97,115,117,114,101,32]++(tp))):=d_ (by simp;omega);have a2:bY .add ([109,101,97,115,117,114,101,32]++(tp)) ([32,58,32])=some (.str ([109,101,97,115,117,114,101,32]++(tp)++([32,58,32]))):=d_ (by simp;omega);have a3:bY .add ([109,101,97,115,117,114,101,32]++(tp)++([32,58,32])) (x.name)=some (.str ([109,101,97,115,117,114,101,32]++(tp)++([32,58,32])++(x.name))):=d_ (by simp;omega);simp only[cj,eO,cI]at a1 a2 a3;simp[hk]at hv;subst hv;simp[c107,AC.snd,End,iF,h1,h2,h3,hb,kl,k0,dm,dy,fm,AV.gz,AV.beq,AV.ki,k2,k3,e1,a1,a2,a3]
theorem afH(hk:x.kind=6):μ (C u).gl (aU (C u)) c107.snd.snd s1 (End iF B (.str (dv x.kind x.gate x.name x.pl x.size x.to))):=by obtain⟨qP,hg,hn,hp,hz,ht⟩:=hR;obtain⟨v,hv⟩:∃v,v=dv x.kind x.gate x.name x.pl x.size x.to:=⟨_,rfl⟩;rw[<-hv];simp only[dv]at hv;rw[hk]at k0;have e1:=mP (hp (by omega));have l1:=u4 (hp (by omega));generalize p_ x.pl=tp at*;have a1:bY .add ([114,101,115,101,116,32]) (tp)=some (.str ([114,101,115,101,116,32]++(tp))):=d_ (by simp;omega);simp only[cj,eO,cI]at a1;simp[hk]at hv;subst hv;simp[c107,AC.snd,End,iF,h1,h2,h3,hb,kl,k0,dm,dy,fm,AV.gz,AV.beq,AV.ki,k3,e1,a1]
theorem afI(hk:x.kind=7):μ (C u).gl (aU (C u)) c107.snd.snd s1 (End iF B (.str (dv x.kind x.gate x.name x.pl x.size x.to))):=by obtain⟨qP,hg,hn,hp,hz,ht⟩:=hR;obtain⟨v,hv⟩:∃v,v=dv x.kind x.gate x.name x.pl x.size x.to:=⟨_,rfl⟩;rw[<-hv];simp only[dv]at hv;rw[hk]at k0;have l2:=hn (by omega);have a1:bY .add ([105,102,32]) (x.name)=some (.str ([105,102,32]++(x.name))):=d_ (by simp;omega);simp only[cj,eO,cI]at a1;simp[hk]at hv;subst hv;simp[c107,AC.snd,End,iF,h1,h2,h3,hb,kl,k0,dm,dy,fm,AV.gz,AV.beq,AV.ki,k2,a1]
theorem afJ(hk:x.kind=8):μ (C u).gl (aU (C u)) c107.snd.snd s1 (End iF B (.str (dv x.kind x.gate x.name x.pl x.size x.to))):=by obtain⟨qP,hg,hn,hp,hz,ht⟩:=hR;obtain⟨v,hv⟩:∃v,v=dv x.kind x.gate x.name x.pl x.size x.to:=⟨_,rfl⟩;rw[<-hv];simp only[dv]at hv;rw[hk]at k0;have l2:=hn (by omega);have e1:=es (hz (by omega));have l1:=qX (hz (by omega));have e2:=et (ht (by omega));have l3:=qX (ht (by omega));generalize x.size.text=ts at*;generalize x.to.text=tt at*;have a1:bY .add ([102,111,114,32]) (x.name)=some (.str ([102,111,114,32]++(x.name))):=d_ (by simp;omega);have a2:bY .add ([102,111,114,32]++(x.name)) ([32,61,32])=some (.str ([102,111,114,32]++(x.name)++([32,61,32]))):=d_ (by simp;omega);have a3:bY .add ([102,111,114,32]++(x.name)++([32,61,32])) (ts)=some (.str ([102,111,114,32]++(x.name)++([32,61,32])++(ts))):=d_ (by simp;omega);have a4:bY .add ([102,111,114,32]++(x.name)++([32,61,32])++(ts)) ([32,58,32])=some (.str ([102,111,114,32]++(x.name)++([32,61,32])++(ts)++([32,58,32]))):=d_ (by simp;omega);have a5:bY .add ([102,111,114,32]++(x.name)++([32,61,32])++(ts)++([32,58,32])) (tt)=some (.str ([102,111,114,32]++(x.name)++([32,61,32])++(ts)++([32,58,32])++(tt))):=d_ (by simp;omega);simp only[cj,eO,cI]at a1 a2 a3 a4 a5;simp[hk]at hv;subst hv;simp[c107,AC.snd,End,iF,h1,h2,h3,hb,kl,k0,dm,dy,fm,AV.gz,AV.beq,AV.ki,k2,k4,k8,e1,e2,a1,a2,a3,a4,a5]
theorem afK(hk:x.kind=9):μ (C u).gl (aU (C u)) c107.snd.snd s1 (End iF B (.str (dv x.kind x.gate x.name x.pl x.size x.to))):=by obtain⟨qP,hg,hn,hp,hz,ht⟩:=hR;obtain⟨v,hv⟩:∃v,v=dv x.kind x.gate x.name x.pl x.size x.to:=⟨_,rfl⟩;rw[<-hv];simp only[dv]at hv;rw[hk]at k0;have l2:=hn (by omega);have e1:=mP (hp (by omega));have l1:=u4 (hp (by omega));generalize p_ x.pl=tp at*;have a1:bY .add (x.name) ([40])=some (.str (x.name++([40]))):=d_ (by simp;omega);have a2:bY .add (x.name++([40])) (tp)=some (.str (x.name++([40])++(tp))):=d_ (by simp;omega);have a3:bY .add (x.name++([40])++(tp)) ([41])=some (.str (x.name++([40])++(tp)++([41]))):=d_ (by simp;omega);simp only[cj,eO,cI]at a1 a2 a3;simp[hk]at hv;subst hv;simp[c107,AC.snd,End,iF,h1,h2,h3,hb,kl,k0,dm,dy,fm,AV.gz,AV.beq,AV.ki,k2,k3,e1,a1,a2,a3]
theorem afB(hk:x.kind=10):μ (C u).gl (aU (C u)) c107.snd.snd s1 (End iF B (.str (dv x.kind x.gate x.name x.pl x.size x.to))):=by obtain⟨qP,hg,hn,hp,hz,ht⟩:=hR;obtain⟨v,hv⟩:∃v,v=dv x.kind x.gate x.name x.pl x.size x.to:=⟨_,rfl⟩;rw[<-hv];simp only[dv]at hv;rw[hk]at k0;simp[hk]at hv;subst hv;simp[c107,AC.snd,End,iF,h1,h2,h3,hb,kl,k0,dm,dy,fm,AV.gz,AV.beq,AV.ki]
theorem afC(hk:x.kind=11):μ (C u).gl (aU (C u)) c107.snd.snd s1 (End iF B (.str (dv x.kind x.gate x.name x.pl x.size x.to))):=by obtain⟨qP,hg,hn,hp,hz,ht⟩:=hR;obtain⟨v,hv⟩:∃v,v=dv x.kind x.gate x.name x.pl x.size x.to:=⟨_,rfl⟩;rw[<-hv];simp only[dv]at hv;rw[hk]at k0;simp[hk]at hv;subst hv;simp[c107,AC.snd,End,iF,h1,h2,h3,hb,kl,k0,dm,dy,fm,AV.gz,AV.beq,AV.ki]
end
theorem f107(x:δ)(hx:x.Ok)(hR:zK x.kind x.gate x.name x.pl x.size x.to)(m:Mem):kf u 107 [x.av] m=some (.str (dv x.kind x.gate x.name x.pl x.size x.to),m):=by
 have eR:∀M:Mem,M.φ=φ:=fun _=>rfl;obtain⟨o1,o2,o3,o4⟩:=agO hx;have kl:=δ.jT x;have Cd:x.cells.map φ=x.cells:=by rw[<-fO,δ.yt]
 refine bD (g:=iF) rfl rfl rfl ?_;simp only[ay,aA,δ.ep _ _ _ hx,iF,c107];refine ω (fun st=>ζ st.env 1= .ν m.ε.length 0/\st.mem= {ε:=m.ε++[.cells x.cells],θ:=[]}) (by simp[δ.av,kl,Mem.push,eR,Cd]) fun s1 ⟨h1,h3⟩=>?_;refine ω (fun st=>ζ st.env 1= .ν m.ε.length 0/\ζ st.env 3= .fn (.func 171) [] [.ν m.ε.length 0]/\st.mem= {ε:=m.ε++[.cells x.cells],θ:=[]}) (by simp[h1,h3]) fun s1 ⟨h1,h2,h3⟩=>?_;show μ (C u).gl (aU (C u)) c107.snd.snd s1 (End iF m.ε (.str (dv x.kind x.gate x.name x.pl x.size x.to)));have hb:(m.ε++[κ.cells x.cells])[m.ε.length]?=some (.cells x.cells):=by simp
 have nX:=fun hs hn T=>f171 (u:=u) (id:=m.ε.length) x {ε:=m.ε++[.cells x.cells],θ:=T} hb o1 hs hn;have mP:=fun h m=>f172 (u:=u) x.cp o3 x.pl o4 h m;have es:=fun h m=>Et (u:=u) x.size o1 h m;have et:=fun h m=>Et (u:=u) x.to o2 h m;have qP:=hR.1;have pH:x.kind=1\/x.kind=2\/x.kind=3\/x.kind=4\/x.kind=5\/x.kind=6\/x.kind=7\/x.kind=8\/x.kind=9\/x.kind=10\/x.kind=11:=by omega
 rcases pH with hk|hk|hk|hk|hk|hk|hk|hk|hk|hk|hk
 ·exact afA h1 h2 h3 hb nX mP es et hR (cell0 x) (qz x) (nx x) (qA x) (pg x) (qB x) kl hk
 ·exact afD h1 h2 h3 hb nX mP es et hR (cell0 x) (qz x) (nx x) (qA x) (pg x) (qB x) kl hk
 ·exact afE h1 h2 h3 hb nX mP es et hR (cell0 x) (qz x) (nx x) (qA x) (pg x) (qB x) kl hk
 ·exact afF h1 h2 h3 hb nX mP es et hR (cell0 x) (qz x) (nx x) (qA x) (pg x) (qB x) kl hk
 ·exact afG h1 h2 h3 hb nX mP es et hR (cell0 x) (qz x) (nx x) (qA x) (pg x) (qB x) kl hk
 ·exact afH h1 h2 h3 hb nX mP es et hR (cell0 x) (qz x) (nx x) (qA x) (pg x) (qB x) kl hk
 ·exact afI h1 h2 h3 hb nX mP es et hR (cell0 x) (qz x) (nx x) (qA x) (pg x) (qB x) kl hk
 ·exact afJ h1 h2 h3 hb nX mP es et hR (cell0 x) (qz x) (nx x) (qA x) (pg x) (qB x) kl hk
 ·exact afK h1 h2 h3 hb nX mP es et hR (cell0 x) (qz x) (nx x) (qA x) (pg x) (qB x) kl hk
 ·exact afB h1 h2 h3 hb nX mP es et hR (cell0 x) (qz x) (nx x) (qA x) (pg x) (qB x) kl hk
 ·exact afC h1 h2 h3 hb nX mP es et hR (cell0 x) (qz x) (nx x) (qA x) (pg x) (qB x) kl hk
def pM(B:List κ)(s:List Nat):List κ:=B++[.nu 150 5 s,.cells [.fn (.func 105) [] [.ν B.length 0,.ν (B.length+1) 0]]]
theorem CX(B:List κ)(s:List Nat):(pM B s).length=B.length+2:=by simp[pM]
theorem S9(B:List κ)(s:List Nat)(ext:List κ):(pM B s++ext)[B.length]?=some (.nu 150 5 s):=by simp[pM]
theorem Mh(B:List κ)(s:List Nat)(ext:List κ):(pM B s++ext)[B.length+1]?=some (.cells [.fn (.func 105) [] [.ν B.length 0,.ν (B.length+1) 0]]):=by simp[pM]
theorem pMs(B:List κ)(s:List Nat)(ext:List κ)(t:List Nat):(pM B s++ext).set B.length (.nu 150 5 t)=pM B t++ext:=by simp[pM]
theorem f106(B:List κ)(s t:List Nat)(ext:List κ)(T:List Nat)(h:s.length+t.length<=1000000000):
  kf u 106 [.ν B.length 0,.str t] {ε:=pM B s++ext,θ:=T}=some (.aP [.int .i64 t.length,.fY],{ε:=pM B (s++t)++ext,θ:=T}):=by
 refine Bd (p:=wN 150 5) (by rfl) ?_;have hl:B.length<(pM B s++ext).length:=by simp[CX];omega
 have h2:s.length+t.length<=140737488355328:=by omega
 have he:∀k,([]++[AV.ν B.length 0,.str t]++[]).map (exp (pM B s++ext).length k)=[.ν B.length 0,.str t]:=fun k=>by simp only[cI,dW,ay,aA,exp,hl,if_true]
 rw[he];simp only[wN,S9,h2,and_self,if_true,Mem.put,pMs]
def iP(k:Int):List Nat:=if k=7 then[101,108,115,101]else if k=11 then[97,112,112,108,121]else[]
theorem VF(k:Int):(iP k).length<=5:=by unfold iP;split<;>(try split)<;>simp
theorem DO{y:δ}(h:0<y.blocks.length):dh y.kind=true/\y.blocks[0]?=some (y.cb,y.body):=by
 unfold δ.blocks at h⊢;by_cases he:de y.kind=true
 ·have hb:dh y.kind=true:=by simp only[dh,de,decide_eq_true_eq]at he⊢;omega
  simp[he,hb]
 ·by_cases hb:dh y.kind=true
  ·simp[he,hb]
  ·simp[he,hb]at h
theorem Vx{y:δ}(h:1<y.blocks.length):de y.kind=true/\y.blocks[1]?=some (y.ce,y.aG):=by
 unfold δ.blocks at h⊢;by_cases he:de y.kind=true
 ·simp[he]
 ·by_cases hb:dh y.kind=true
  ·simp[he,hb]at h
  ·simp[he,hb]at h
def iu(y:δ)(b:List Nat)(j:Nat):List Nat:=
 (if 0<j then[32,123,10]++dN y.body (b++lq)else[])++(if 1<j/\¬(y.kind=7/\y.aG.length=0)then b++[125,32]++iP y.kind++[32,123,10]++dN y.aG (b++lq)else[])
theorem ac_(y:δ)(b:List Nat):q_ y b=b++dv y.kind y.gate y.name y.pl y.size y.to++(iu y b y.blocks.length++(if 0<y.blocks.length then b++[125,10]else[59,10])):=by
 rw[ac9];unfold iu δ.blocks;by_cases he:de y.kind=true
 ·have hb:dh y.kind=true:=by simp only[dh,de,decide_eq_true_eq]at he⊢;omega
  have hk:y.kind=7\/y.kind=11:=by simpa only[de,decide_eq_true_eq]using he
  have xH:iP y.kind=yY y.kind:=by rcases hk with h|h<;>simp[iP,yY,h]
  simp[he,hb,xH]
 ·by_cases hb:dh y.kind=true
  ·simp[he,hb]
  ·simp[he,hb]
theorem aeH(y:δ)(b:List Nat){j j':Nat}(h:j<=j'):(iu y b j).length<=(iu y b j').length:=by
 unfold iu;simp only[fu];have h1:(if 0<j then[32,123,10]++dN y.body (b++lq)else[]).length<=(if 0<j' then[32,123,10]++dN y.body (b++lq)else[]).length:=by
  by_cases h0:0<j
  ·rw[if_pos h0,if_pos (by omega)];exact bF _
  ·rw[if_neg h0];simp
 have h2:(if 1<j/\¬(y.kind=7/\y.aG.length=0)then b++[125,32]++iP y.kind++[32,123,10]++dN y.aG (b++lq)else[]).length<=(if 1<j'/\¬(y.kind=7/\y.aG.length=0)then b++[125,32]++iP y.kind++[32,123,10]++dN y.aG (b++lq)else[]).length:=by
  by_cases h0:1<j/\¬(y.kind=7/\y.aG.length=0)
  ·rw[if_pos h0,if_pos ⟨by omega,h0.2⟩];exact bF _
  ·rw[if_neg h0];simp
 omega
theorem ac'(l:List δ)(b:List Nat)(i:Nat)(h:i<l.length):(dN (l.take i) b).length+(q_ l[i] b).length<=(dN l b).length:=by
 induction l generalizing i with
 |nil=>simp at h
 |cons a l ih=>
  cases i with
  |zero=>simp[dN]
  |succ i=>
   have:=ih i (by simpa using h)
   simp only[List.take_succ_cons,dN,fu,List.getElem_cons_succ];omega
theorem f105(B:List κ)(l:List δ):∀(c:χ),aJ c->δ.c7 l->δ.Rs l->∀b:List Nat,b.length+2*δ.cM l<=100->δ.bX l<1000000000->∀(s:List Nat),s.length+(dN l b).length<=1000000000->∀(ext:List κ) (T:List Nat),
  aU (C u) (.fn (.func 105) [] [.ν B.length 0,.ν (B.length+1) 0]) [.list c (δ.Δ l),.str b] {ε:=pM B s++ext,θ:=T}=some (.aP [],{ε:=pM B (s++dN l b)++ext,θ:=T}):=by
 refine δ.lists (P:=fun l=>∀(c:χ),aJ c->δ.c7 l->δ.Rs l->∀b:List Nat,b.length+2*δ.cM l<=100->δ.bX l<1000000000->∀(s:List Nat),s.length+(dN l b).length<=1000000000->∀(ext:List κ) (T:List Nat),
  aU (C u) (.fn (.func 105) [] [.ν B.length 0,.ν (B.length+1) 0]) [.list c (δ.Δ l),.str b] {ε:=pM B s++ext,θ:=T}=some (.aP [],{ε:=pM B (s++dN l b)++ext,θ:=T})) (fun l ih c hc ab hR b hb hw s hs ext T=>?_) l
 refine lE (g:=ED) rfl rfl rfl (by simp[CX]) ?_;have ZD:B.length<(pM B s++ext).length:=by simp[CX];omega
 have ZE:B.length+1<(pM B s++ext).length:=by simp[CX];omega
 simp only[cI,eO,ay,aA,oL hc ab];simp only[exp,ZD,ZE,if_true,ED,c105];have jU:=δ.wT l;have eR:∀M:Mem,M.φ=φ:=fun _=>rfl;let K:St->Prop:=fun st=>ζ st.env 1= .str b/\ζ st.env 2= .ν B.length 0/\ζ st.env 3= .ν (B.length+1) 0;let J:Nat->St->Prop:=fun i st=>K st/\ζ st.env 11= .list c (δ.Δ l)/\ζ st.env 12= .int .i64 l.length/\ζ st.env 13= .int .i64 i;let PM:List Nat->List κ->St->Prop:=fun s x st=>st.mem= {ε:=pM B s++x,θ:=[]};let I:Nat->St->Prop:=fun i st=>J i st/\∃x,PM (s++dN (l.take i) b) (ext++x) st;refine ω (fun st=>J 0 st/\PM s ext st) (by simp[J,K,PM,ng]) fun s4 ⟨a1,a2⟩=>?_;refine μ.block (μ.upto (I:=I) l.length ⟨a1,[],by simpa[dN]using a2⟩ (fun i st ρ ψ=>?_) (fun st ψ=>?_))
 ·obtain⟨⟨⟨h1,h2,h3⟩,q1,q2,q3⟩,x,h4⟩:=ψ;simp only[PM]at h4;have fU:a_ .i64 ((i:Int)+1)=(i:Int)+1:=wrap_i64 (by omega) (by omega);have hg:=Az l i ρ;have hm:l[i]∈l:=cL ρ;have jV:=δ.gO ab _ hm;have X8:=δ.afv hR _ hm;obtain⟨mZ,kT⟩:=ih _ hm;have ou:=δ.o_ hm;have ib:=δ.CV jV;have tJ:=δ.D4 jV;have cG:=δ.yM l[i];have hdm:=Wy hm;have hle:=ac' l b i ρ;have kz:s++dN (l.take (i+1)) b=(s++dN (l.take i) b)++q_ l[i] b:=by rw[wZ ρ,ada,cj]
  have X':(s++dN (l.take i) b).length+(q_ l[i] b).length<=1000000000:=by simp;omega
  generalize s++dN (l.take i) b=S at*;generalize l[i]=y at*;have GR:=ac_ y b;obtain⟨QR,X6,X7⟩:=YO X8;have hhl:=QK QR;have Pz:=fun m=>f107 (u:=u) y jV QR m;have qE:=fun m=>f108 (u:=u) y jV m;have GI:=Wx y;have k0:=cell0 y;have kt:=IZ y;have kl:=δ.jT y;have eQ:b.length<=100:=by omega
  have QC:=VF y.kind;generalize dv y.kind y.gate y.name y.pl y.size y.to=hd at*;simp only[δ.av,g_]at hg Pz qE;have JR:(q_ y b).length=b.length+hd.length+((iu y b y.blocks.length).length+(if 0<y.blocks.length then b.length+2 else 2)):=by rw[GR];simp only[fu];split<;>simp
  let J2:St->Prop:=fun st=>J i st/\∃v,ζ st.env 7= .ae 7 v 0/\τ st.loc 7=some (v,.cells y.cells);refine ω (fun st=>J i st/\PM S (ext++x) st/\ζ st.env 14= .bool true) (by simp[J,K,PM,h1,h2,h3,h4,q1,q2,q3,ρ]) fun s5 ⟨⟨⟨h1,h2,h3⟩,q1,q2,q3⟩,h4,q4⟩=>?_;simp only[PM]at h4;refine ω (fun st=>J i st/\PM S (ext++x) st) (by simp[J,K,PM,h1,h2,h3,h4,q1,q2,q3,q4]) fun s5 ⟨⟨⟨h1,h2,h3⟩,q1,q2,q3⟩,h4⟩=>?_;simp only[PM]at h4;refine bc (fun st=>J i st/\∃x2,PM (S++q_ y b) (ext++x2) st) ?_ fun s6 ⟨⟨⟨h1,h2,h3⟩,q1,q2,q3⟩,x2,h4⟩=>by simp only[PM]at h4;exact μ.fin (M:=fun st=>J (i+1) st/\PM (S++q_ y b) (ext++x2) st) .normal (by simp[J,K,PM,h1,h2,h3,h4,q1,q2,q3,fU]) fun s' ⟨d1,d2⟩=> .inl ⟨rfl,d1,x2,by rw[kz];exact d2⟩
  refine μ.block ?_;refine ω (fun st=>J2 st/\PM S (ext++x) st) (by simp[J2,J,K,PM,h1,h2,h3,h4,q1,q2,q3,ρ,hg,kl,kt,ng]) fun s5 ⟨⟨⟨⟨h1,h2,h3⟩,q1,q2,q3⟩,v,q4,q5⟩,h4⟩=>?_;simp only[PM]at h4;have a1:bY .add b hd=some (.str (b++hd)):=d_ (by omega);have w1:=f106 (u:=u) B S (b++hd) (ext++x) [] (by simp;omega);refine ω (fun st=>J2 st/\PM (S++(b++hd)) (ext++x) st) (by simp[J2,J,K,PM,h1,h2,h3,h4,q1,q2,q3,q4,q5,kl,kt,Pz,a1,w1]) fun s5 ⟨⟨⟨⟨h1,h2,h3⟩,q1,q2,q3⟩,v,q4,q5⟩,h4⟩=>?_;simp only[PM]at h4;let x2:List κ:=x++[.map [(.int .i64 7,.str [101,108,115,101]),(.int .i64 11,.str [97,112,112,108,121])]];refine ω (fun st=>J2 st/\PM (S++(b++hd)) (ext++x2) st/\ζ st.env 8= .str (iP y.kind)) (by
   have pV:pM B (S++(b++hd))++(ext++x2)=(pM B (S++(b++hd))++(ext++x))++[.map [(.int .i64 7,.str [101,108,115,101]),(.int .i64 11,.str [97,112,112,108,121])]]:=by simp[x2]
   simp only[PM];rw[pV];generalize pM B (S++(b++hd))++(ext++x)=BB at*;by_cases k7:y.kind=7
   ·rw[k7]at k0;simp[J2,J,K,h1,h2,h3,h4,q1,q2,q3,q4,q5,kl,k0,k7,Mem.push,Mem.put,isKey,plain,tP,jj,iZ,iP,MJ]
   ·by_cases CE:y.kind=11
    ·rw[CE]at k0;simp[J2,J,K,h1,h2,h3,h4,q1,q2,q3,q4,q5,kl,k0,CE,Mem.push,Mem.put,isKey,plain,tP,jj,iZ,iP,MJ]
    ·simp[J2,J,K,h1,h2,h3,h4,q1,q2,q3,q4,q5,kl,k0,k7,CE,Mem.push,Mem.put,isKey,plain,tP,jj,iZ,iP,MJ]) fun s5 ⟨⟨⟨⟨h1,h2,h3⟩,q1,q2,q3⟩,v,q4,q5⟩,h4,q6⟩=>?_
  simp only[PM]at h4;generalize Qr:S++(b++hd)=S2 at*;have agZ:S2.length=S.length+b.length+hd.length:=by rw[<-Qr];simp;omega
  refine bc (fun st=>J2 st/\∃x3,PM (S2++iu y b y.blocks.length) (ext++x3) st) ?_ fun s5 ⟨⟨⟨⟨h1,h2,h3⟩,q1,q2,q3⟩,v,q4,q5⟩,x3,h4⟩=>?_
  ·let JB:St->Prop:=fun st=>J2 st/\ζ st.env 8= .str (iP y.kind)/\ζ st.env 28=g_ y/\ζ st.env 29= .int .i64 y.blocks.length;let I2:Nat->St->Prop:=fun j st=>JB st/\ζ st.env 30= .int .i64 j/\∃x3,PM (S2++iu y b j) (ext++x3) st;refine ω (fun st=>JB st/\ζ st.env 30= .int .i64 0/\PM S2 (ext++x2) st) (by simp[JB,J2,J,K,PM,h1,h2,h3,h4,q1,q2,q3,q4,q5,q6,kl,kt,qE,g_]) fun s6 ⟨a1,a2,a3⟩=>?_;refine μ.block (μ.upto (I:=I2) y.blocks.length ⟨a1,a2,x2,by simpa[iu]using a3⟩ (fun j st dk ψ=>?_) (fun st ψ=>?_))
   ·obtain⟨⟨⟨⟨⟨h1,h2,h3⟩,q1,q2,q3⟩,v,q4,q5⟩,q6,z1,z2⟩,z3,x3,h4⟩:=ψ;simp only[PM]at h4;have bW:=aeH y b (show j+1<=y.blocks.length by omega);have Ya:=X';rw[JR]at Ya;have G3:2<=(if 0<y.blocks.length then b.length+2 else 2):=by split<;>omega
    have cQ:y.blocks.length<=2:=by unfold δ.blocks;split<;>(try split)<;>simp
    have oU:a_ .i64 ((j:Int)+1)=(j:Int)+1:=wrap_i64 (by omega) (by omega);simp only[g_,eT]at z1;have hj:j=0\/j=1:=by omega
    rcases hj with rfl|rfl
    ·obtain⟨QS,ef⟩:=DO dk;have gh:y.blocks[0]=(y.cb,y.body):=by rw[dr dk]at ef;simpa using ef
     rw[QS]at GI;simp only[if_true]at GI;have KU:iu y b (0+1)=[32,123,10]++dN y.body (b++[32,32]):=by simp[iu,lq]
     have oe:iu y b 0=[]:=by simp[iu]
     rw[KU]at bW;rw[oe,dW]at h4;simp only[fu,eZ,lK]at bW;have a1:bY .add b [32,32]=some (.str (b++[32,32])):=d_ (by simp;omega);have w2:=f106 (u:=u) B S2 [32,123,10] (ext++x3) [] (by simp;omega);have w3:=mZ y.cb tJ.1 ib.1 (X6 QS) (b++[32,32]) (by simp;omega) (by omega) (S2++[32,123,10]) (by simp;omega) (ext++x3) [];have p1:=Mh B (S2++[32,123,10]) (ext++x3);refine μ.fin (M:=fun st=>JB st/\ζ st.env 30= .int .i64 1/\PM (S2++[32,123,10]++dN y.body (b++[32,32])) (ext++x3) st) .normal (by
      have pU:a_ .i64 1=1:=by decide
      simp only[PM];generalize S2++[32,123,10]++dN y.body (b++[32,32])=S4 at*;generalize S2++[32,123,10]=S3 at*;simp[Ae,JB,J2,J,K,h1,h2,h3,h4,q1,q2,q3,q4,q5,q6,z1,z2,z3,dk,gh,w2,p1,a1,w3,g_,eT,pU]) fun s' ⟨d1,d2,d3⟩=> .inl ⟨rfl,d1,d2,x3,?_⟩
     rw[KU,<-cj];exact d3
    ·obtain⟨QT,bN⟩:=Vx dk;have gh:y.blocks[1]=(y.ce,y.aG):=by rw[dr dk]at bN;simpa using bN
     rw[QT]at GI;simp only[if_true]at GI;have pU:a_ .i64 2=2:=by decide
     have KJ:(1:Int)<(y.blocks.length:Int):=by omega
     by_cases BT:y.kind=7/\y.aG.length=0
     ·have ig:iu y b (1+1)=iu y b 1:=by simp only[iu,BT];simp
      have YQ:y.aG=[]:=List.eq_nil_of_length_eq_zero BT.2;rw[BT.1]at k0;refine μ.fin (M:=fun st=>JB st/\ζ st.env 30= .int .i64 2/\PM (S2++iu y b 1) (ext++x3) st) .normal (by
       simp only[PM]
       generalize S2++iu y b 1=S3 at*;simp[Ae,JB,J2,J,K,h1,h2,h3,h4,q1,q2,q3,q4,q5,q6,z1,z2,z3,dk,KJ,gh,kl,k0,YQ,δ.Δ,g_,eT,pU]) fun s' ⟨d1,d2,d3⟩=> .inl ⟨rfl,d1,d2,x3,?_⟩
      rw[ig];exact d3
     ·have ig:iu y b (1+1)=iu y b 1++(b++[125,32]++iP y.kind)++[32,123,10]++dN y.aG (b++[32,32]):=by simp only[iu,show 0<1+1 by decide,show 1<1+1 by decide,show 0<1 by decide,show¬1<1 by decide,if_true,BT,not_false_eq_true,and_self,lq,false_and,if_false,dW];simp
      rw[ig]at bW;simp only[fu,eZ,lK]at bW;generalize Gx:S2++iu y b 1=S3 at*;have X9:S3.length=S2.length+(iu y b 1).length:=by rw[<-Gx];simp
      have a1:bY .add b [32,32]=some (.str (b++[32,32])):=d_ (by simp;omega);have a2:bY .add b [125,32]=some (.str (b++[125,32])):=d_ (by simp;omega);have a3:bY .add (b++[125,32]) (iP y.kind)=some (.str (b++[125,32]++iP y.kind)):=d_ (by simp;omega);have w2:=f106 (u:=u) B S3 (b++[125,32]++iP y.kind) (ext++x3) [] (by simp;omega);have w3:=f106 (u:=u) B (S3++(b++[125,32]++iP y.kind)) [32,123,10] (ext++x3) [] (by simp;omega);have w4:=kT y.ce tJ.2 ib.2 (X7 QT) (b++[32,32]) (by simp;omega) (by omega) (S3++(b++[125,32]++iP y.kind)++[32,123,10]) (by simp;omega) (ext++x3) [];have p1:=Mh B (S3++(b++[125,32]++iP y.kind)++[32,123,10]) (ext++x3);have ak:y.kind=7->((y.aG.length:Int)==0)=false:=fun h=>by have:¬y.aG.length=0:=fun h2=>BT ⟨h,h2⟩;simp;intro h3;rw[h3]at this;exact this rfl
      refine μ.fin (M:=fun st=>JB st/\ζ st.env 30= .int .i64 2/\PM (S3++(b++[125,32]++iP y.kind)++[32,123,10]++dN y.aG (b++[32,32])) (ext++x3) st) .normal (by
       simp only[PM]
       generalize S3++(b++[125,32]++iP y.kind)++[32,123,10]++dN y.aG (b++[32,32])=S6 at*;generalize S3++(b++[125,32]++iP y.kind)++[32,123,10]=S5 at*;generalize S3++(b++[125,32]++iP y.kind)=S4 at*;generalize b++[125,32]++iP y.kind=tb at*;by_cases k7:y.kind=7
       ·have Ce:=ak k7;rw[k7]at k0 q6 a3;simp[Ae,JB,J2,J,K,h1,h2,h3,h4,q1,q2,q3,q4,q5,q6,z1,z2,z3,dk,KJ,gh,kl,k0,k7,ng,Ce,w2,w3,p1,a1,a2,a3,w4,g_,eT,pU]
       ·simp[Ae,JB,J2,J,K,h1,h2,h3,h4,q1,q2,q3,q4,q5,q6,z1,z2,z3,dk,KJ,gh,kl,k0,eC k7,w2,w3,p1,a1,a2,a3,w4,g_,eT,pU]) fun s' ⟨d1,d2,d3⟩=> .inl ⟨rfl,d1,d2,x3,?_⟩
      have:S2++(iu y b 1++(b++[125,32]++iP y.kind)++[32,123,10]++dN y.aG (b++[32,32]))=S3++(b++[125,32]++iP y.kind)++[32,123,10]++dN y.aG (b++[32,32]):=by rw[<-Gx];simp
      rw[ig,this];exact d3
   ·obtain⟨⟨⟨⟨⟨h1,h2,h3⟩,q1,q2,q3⟩,v,q4,q5⟩,q6,z1,z2⟩,z3,x3,h4⟩:=ψ;simp only[PM]at h4;refine μ.fin (M:=fun st=>J2 st/\PM (S2++iu y b y.blocks.length) (ext++x3) st) (.exit 2) (by simp[Ae,J2,J,K,PM,h1,h2,h3,h4,q1,q2,q3,q4,q5,q6,z1,z2,z3]) fun s' ⟨d1,d2⟩=>?_;exact⟨by simp,.inl ⟨rfl,.inl ⟨rfl,d1,x3,d2⟩⟩⟩
  ·simp only[PM]at h4;have JS:S++q_ y b=S2++iu y b y.blocks.length++(if 0<y.blocks.length then b++[125,10]else[59,10]):=by rw[GR,<-Qr];simp
   rw[JS];generalize Gx:S2++iu y b y.blocks.length=S3 at*;have X9:S3.length=S2.length+(iu y b y.blocks.length).length:=by rw[<-Gx];simp
   by_cases h0:0<y.blocks.length
   ·rw[if_pos h0]at JR⊢;have vP:(0:Int)<(y.blocks.length:Int):=by omega
    have a1:bY .add b [125,10]=some (.str (b++[125,10])):=d_ (by simp;omega);have w2:=f106 (u:=u) B S3 (b++[125,10]) (ext++x3) [] (by simp;omega);refine μ.fin (M:=fun st=>J i st/\PM (S3++(b++[125,10])) (ext++x3) st) .normal (by simp[J,K,PM,h1,h2,h3,h4,q1,q2,q3,q4,q5,kl,kt,qE,h0,vP,a1,w2]) fun s' ⟨d1,d2⟩=>?_;simp;exact⟨d1,x3,d2⟩
   ·rw[if_neg h0]at JR⊢;have vP:¬(0:Int)<(y.blocks.length:Int):=by omega
    have w2:=f106 (u:=u) B S3 [59,10] (ext++x3) [] (by simp;omega);refine μ.fin (M:=fun st=>J i st/\PM (S3++[59,10]) (ext++x3) st) .normal (by simp[J,K,PM,h1,h2,h3,h4,q1,q2,q3,q4,q5,kl,kt,qE,h0,vP,w2]) fun s' ⟨d1,d2⟩=>?_;simp;exact⟨d1,x3,d2⟩
 ·obtain⟨⟨⟨h1,h2,h3⟩,q1,q2,q3⟩,x,h4⟩:=ψ;simp only[PM]at h4;rw[mL]at h4;simp[RL,h1,h2,h3,h4,q1,q2,q3,PZ]
theorem f111(B:List κ)(s:List Nat)(ext:List κ)(T:List Nat):
  kf u 111 [.ν B.length 0] {ε:=pM B s++ext,θ:=T}=some (.str s,{ε:=B++([.dead,.cells [.fn (.func 105) [] [.ν B.length 0,.ν (B.length+1) 0]]]++ext),θ:=T}):=by
 refine Bd (p:=wM 150 5) (by rfl) ?_;have hl:B.length<(pM B s++ext).length:=by simp[CX];omega
 have he:∀k,([]++[AV.ν B.length 0]++[]).map (exp (pM B s++ext).length k)=[.ν B.length 0]:=fun k=>by simp only[cI,dW,ay,aA,exp,hl,if_true]
 rw[he];simp only[wM,S9,and_self,if_true,Mem.put];simp[pM]
def Mr(ps:List Ξ):List Nat:=if ko ps=0 then kU ps else[]
theorem f25(aS:χ)(cg:aJ aS)(ps:List Ξ)(bA:∀x∈ps,x.Ok)(cU:lH ps<1000000000)(m:Mem):
  kf u 25 [dT aS ps] m=some (.aP [.str (Mr ps),.int .i64 (ko ps)],m):=by
 have Ec:=fun m=>f43 (u:=u) aS cg ps bA (by omega) m;refine bD (g:=FN) rfl rfl rfl ?_;simp only[ay,aA,nC cg bA];simp only[FN,OJ,dT]at Ec⊢;have hz:∀bs n (a:List Nat) (i:Int),ai bs n 8 (.aP [.str a,.int .i64 i])= .aP [.str a,.int .i64 i]:=fun _ _ _ _=>rfl;have eR:∀M:Mem,M.φ=φ:=fun _=>rfl;let K:St->Prop:=fun st=>ζ st.env 1= .ae 1 0 0/\τ st.loc 1=some (0,.cells [.list aS (ps.map Ξ.av)]);refine ω (fun st=>K st/\st.mem= {ε:=m.ε,θ:=[]}) (by simp[K,aR]) fun s1 ⟨⟨h1,h2⟩,h3⟩=>?_;unfold Mr;by_cases hc:ko ps=0
 case neg=>
  rw[if_neg hc]
  refine bc (fun _=>False) ?_ fun _ h=>h.elim;simp[h1,h2,h3,Ec,bne_true hc,hz]
 rw[if_pos hc];obtain⟨ahd,hR⟩:=Wa hc;rw[hc]at Ec⊢;refine ω (fun st=>K st/\st.mem= {ε:=m.ε,θ:=[]}) (by simp[K,h1,h2,h3,Ec]) fun s1 ⟨⟨h1,h2⟩,h3⟩=>?_;refine ω (fun st=>K st/\ζ st.env 5= .ν m.ε.length 0/\st.mem= {ε:=m.ε++[.nu 150 5 []],θ:=[]}) (by simp[K,h1,h2,h3,Mem.push]) fun s1 ⟨⟨h1,h2⟩,h4,h3⟩=>?_;refine ω (fun st=>K st/\ζ st.env 5= .ν m.ε.length 0/\ζ st.env 6= .ν (m.ε.length+1) 0/\st.mem= {ε:=m.ε++[.nu 150 5 [],.cells [.eJ]],θ:=[]}) (by simp[K,h1,h2,h3,h4,Mem.push,eR,φ]) fun s1 ⟨⟨h1,h2⟩,h4,h5,h3⟩=>?_;let PM:List Nat->List κ->St->Prop:=fun s x st=>st.mem= {ε:=pM m.ε s++x,θ:=[]};let K2:St->Prop:=fun st=>K st/\ζ st.env 5= .ν m.ε.length 0/\ζ st.env 6= .ν (m.ε.length+1) 0;refine ω (fun st=>K2 st/\PM [] [] st) (by simp[K2,K,PM,pM,h1,h2,h3,h4,h5,Mem.put,eR,φ,cW,bp,lo,Fn.below]) fun s1 ⟨⟨⟨h1,h2⟩,h4,h5⟩,h3⟩=>?_;simp only[PM]at h3;refine bc (fun st=>K2 st/\∃x,PM (kU ps) x st) ?_ fun s1 ⟨⟨⟨h1,h2⟩,h4,h5⟩,x,h3⟩=>?_
 ·let J:Nat->St->Prop:=fun i st=>K2 st/\ζ st.env 19= .list aS (ps.map Ξ.av)/\ζ st.env 20= .int .i64 ps.length/\ζ st.env 21= .int .i64 i;let I:Nat->St->Prop:=fun i st=>J i st/\∃x,PM (kU (ps.take i)) x st;refine ω (fun st=>J 0 st/\PM [] [] st) (by simp[J,K2,K,PM,h1,h2,h3,h4,h5]) fun s4 ⟨a1,a2⟩=>?_;refine μ.block (μ.upto (I:=I) ps.length ⟨a1,[],a2⟩ (fun i st ρ ψ=>?_) (fun st ψ=>?_))
  ·obtain⟨⟨⟨⟨h1,h2⟩,h4,h5⟩,q1,q2,q3⟩,x,h3⟩:=ψ;simp only[PM]at h3;have fU:a_ .i64 ((i:Int)+1)=(i:Int)+1:=wrap_i64 (by omega) (by omega);have hm:ps[i]∈ps:=cL ρ;have ab:=bA _ hm;have hr:=hR _ hm;have ou:=Ξ.o_ hm;simp only[Ξ.wt]at ou;have ag0:(kU (ps.take i)).length<=2400000:=by have:=aeP (ps.take i) fun x hx=>hR x (List.mem_of_mem_take hx);rw[mf]at this;omega
   have kz:kU (ps.take (i+1))=kU (ps.take i)++ps[i].text:=by rw[wZ ρ,aeO]
   have jU:=adb ps[i].body [32,32] hr.body (by have:=hr.cM;simp;omega) (by have:=hr.bj;omega);have kx:=hr.name;have xZ:=hr.aK;have Ck:=hr.par;have aaa:=aeF _ Ck xZ;simp only[Ξ.text,lq]at kz;generalize kU (ps.take i)=S at*;let P:List AV:=[.str ps[i].name,.list ps[i].cp (ps[i].aK.map aI.av),.list ps[i].cb (δ.Δ ps[i].body)];let J2:St->Prop:=fun st=>J i st/\∃v,ζ st.env 8= .ae 8 v 0/\τ st.loc 8=some (v,.cells P);refine ω (fun st=>J i st/\PM S x st/\ζ st.env 22= .bool true) (by simp[J,K2,K,PM,h1,h2,h3,h4,h5,q1,q2,q3,ρ]) fun s5 ⟨⟨⟨⟨h1,h2⟩,h4,h5⟩,q1,q2,q3⟩,h3,q4⟩=>?_;simp only[PM]at h3;refine ω (fun st=>J i st/\PM S x st) (by simp[J,K2,K,PM,h1,h2,h3,h4,h5,q1,q2,q3,q4]) fun s5 ⟨⟨⟨⟨h1,h2⟩,h4,h5⟩,q1,q2,q3⟩,h3⟩=>?_;simp only[PM]at h3;refine bc (fun st=>J i st/\∃x2,PM (kU (ps.take (i+1))) x2 st) ?_ fun s6 ⟨⟨⟨⟨h1,h2⟩,h4,h5⟩,q1,q2,q3⟩,x2,h3⟩=>by simp only[PM]at h3;exact μ.fin (M:=fun st=>J (i+1) st/\PM (kU (ps.take (i+1))) x2 st) .normal (by simp[J,K2,K,PM,h1,h2,h3,h4,h5,q1,q2,q3,fU]) fun s' ⟨d1,d2⟩=> .inl ⟨rfl,d1,x2,d2⟩
   refine μ.block ?_;refine ω (fun st=>J2 st/\PM S x st) (by simp[J2,J,K2,K,PM,P,h1,h2,h3,h4,h5,q1,q2,q3,ρ,Ξ.av]) fun s5 ⟨⟨⟨⟨⟨h1,h2⟩,h4,h5⟩,q1,q2,q3⟩,v,q4,q5⟩,h3⟩=>?_;simp only[PM]at h3;simp only[P]at q5;refine ω (fun st=>J2 st/\PM S x st/\ζ st.env 9= .list .nil []) (by simp[J2,J,K2,K,PM,P,h1,h2,h3,h4,h5,q1,q2,q3,q4,q5]) fun s5 ⟨⟨⟨⟨⟨h1,h2⟩,h4,h5⟩,q1,q2,q3⟩,v,q4,q5⟩,h3,q6⟩=>?_;simp only[PM]at h3;simp only[P]at q5;refine bc (fun st=>J2 st/\∃x2 cp,PM S x2 st/\ζ st.env 9= .list cp ((ps[i].aK.map aI.text).map AV.str)) ?_ fun s6 ⟨⟨⟨⟨⟨h1,h2⟩,h4,h5⟩,q1,q2,q3⟩,v,q4,q5⟩,x2,cp,h3,q6⟩=>?_
   ·let JX:St->Prop:=fun st=>J2 st/\ζ st.env 26= .list ps[i].cp (ps[i].aK.map aI.av)/\ζ st.env 27= .int .i64 ps[i].aK.length;let I2:Nat->St->Prop:=fun k st=>JX st/\ζ st.env 28= .int .i64 k/\∃x2 cp,PM S x2 st/\ζ st.env 9= .list cp (((ps[i].aK.take k).map aI.text).map AV.str)/\mM (pM m.ε S).length (pM m.ε S++x2) 1 9 cp k;refine ω (fun st=>JX st/\ζ st.env 28= .int .i64 0/\PM S x st/\ζ st.env 9= .list .nil []) (by simp[JX,J2,J,K2,K,PM,P,h1,h2,h3,h4,h5,q1,q2,q3,q4,q5,q6]) fun s6 ⟨a1,a2,a3,a4⟩=>?_;refine μ.block (μ.upto (I:=I2) ps[i].aK.length ⟨a1,a2,x,.nil,a3,a4,mM.nil⟩ (fun k st dk ψ=>?_) (fun st ψ=>?_))
    ·obtain⟨⟨⟨⟨⟨⟨h1,h2⟩,h4,h5⟩,q1,q2,q3⟩,v,q4,q5⟩,z1,z2⟩,z3,x2,cp,h3,z4,r⟩:=ψ;simp only[PM]at h3;simp only[P]at q5;have hwk:a_ .i64 ((k:Int)+1)=(k:Int)+1:=wrap_i64 (by omega) (by omega);have GY:ps[i].aK[k]∈ps[i].aK:=cL dk;obtain⟨n1,n2,n3⟩:=Ck _ GY;have WC:=fun m=>f109 (u:=u) ps[i].aK[k].size (by omega) (by omega) m;have hd:=D8 ps[i].aK[k].size.toNat;have lV:((ps[i].aK.take (k+1)).map aI.text).map AV.str=((ps[i].aK.take k).map aI.text).map AV.str++[.str (ps[i].aK[k]).text]:=by rw[wZ dk,qn,qn];rfl
     have JT:(((ps[i].aK.take k).map aI.text).map AV.str).length=k:=by rw[dd,dd,mf];omega
     have La:=(MS 0 ((ps[i].aK.take k).map aI.text)).s;generalize((ps[i].aK.take k).map aI.text).map AV.str=LQ at*;obtain⟨dJ,x3,b1,b2,-⟩:=MQ (v:=(ps[i].aK[k]).text) r JT La (by omega);simp only[aI.text]at b1 lV;generalize uu ps[i].aK[k].size.toNat=td at*;have a1:bY .add ps[i].aK[k].name [91]=some (.str (ps[i].aK[k].name++[91])):=d_ (by simp;omega);have a2:bY .add (ps[i].aK[k].name++[91]) td=some (.str (ps[i].aK[k].name++[91]++td)):=d_ (by simp;omega);have a3:bY .add (ps[i].aK[k].name++[91]++td) [93]=some (.str (ps[i].aK[k].name++[91]++td++[93])):=d_ (by simp;omega);simp only[cj,eO,cI]at a1 a2 a3 b1 lV;refine μ.fin (M:=fun st=>JX st/\ζ st.env 28= .int .i64 ((k:Int)+1)/\PM S x3 st/\ζ st.env 9= .list dJ (LQ++[.str (ps[i].aK[k].name++91::(td++[93]))])) .normal (by simp[LI,JX,J2,J,K2,K,PM,P,h1,h2,h3,h4,h5,q1,q2,q3,q4,q5,z1,z2,z3,z4,dk,aI.av,WC,a1,a2,a3,dm,dy,shaped,AV.one,eR,φ,b1,hwk]) fun s' ⟨d1,d2,d3,d4⟩=> .inl ⟨rfl,d1,d2,x3,dJ,d3,by rw[lV];exact d4,b2⟩
    ·obtain⟨⟨⟨⟨⟨⟨h1,h2⟩,h4,h5⟩,q1,q2,q3⟩,v,q4,q5⟩,z1,z2⟩,z3,x2,cp,h3,z4,r⟩:=ψ;simp only[PM]at h3;simp only[P]at q5;rw[mL]at z4;refine μ.fin (M:=fun st=>J2 st/\PM S x2 st/\ζ st.env 9= .list cp ((ps[i].aK.map aI.text).map AV.str)) (.exit 2) (by simp[LI,J2,J,K2,K,PM,P,h1,h2,h3,h4,h5,q1,q2,q3,q4,q5,z1,z2,z3,z4]) fun s' ⟨d1,d2,d3⟩=>?_;exact⟨by simp,.inl ⟨rfl,.inl ⟨rfl,d1,x2,cp,d2,d3⟩⟩⟩
   ·simp only[PM]at h3;simp only[P]at q5;have PA:=fun c m=>f110 (u:=u) c (ps[i].aK.map aI.text) (by omega) (by rw[dd];omega) m;rw[List.map_map]at q6 PA;generalize oH (ps[i].aK.map aI.text)=tp at*;have a1:bY .add [112,114,111,99,32] ps[i].name=some (.str ([112,114,111,99,32]++ps[i].name)):=d_ (by simp;omega);have a2:bY .add ([112,114,111,99,32]++ps[i].name) [40]=some (.str ([112,114,111,99,32]++ps[i].name++[40])):=d_ (by simp;omega);have a3:bY .add ([112,114,111,99,32]++ps[i].name++[40]) tp=some (.str ([112,114,111,99,32]++ps[i].name++[40]++tp)):=d_ (by simp;omega);have a4:bY .add ([112,114,111,99,32]++ps[i].name++[40]++tp) [41,32,123,10]=some (.str ([112,114,111,99,32]++ps[i].name++[40]++tp++[41,32,123,10])):=d_ (by simp;omega);have w1:=f106 (u:=u) m.ε S ([112,114,111,99,32]++ps[i].name++[40]++tp++[41,32,123,10]) x2 [] (by simp;omega);have w2:=f105 (u:=u) m.ε ps[i].body ps[i].cb ab.2.2.2.1 ab.2.2.2.2.1 hr.body [32,32] (by have:=hr.cM;simp;omega) (by omega) (S++([112,114,111,99,32]++ps[i].name++[40]++tp++[41,32,123,10])) (by simp;omega) x2 [];have p1:=Mh m.ε (S++([112,114,111,99,32]++ps[i].name++[40]++tp++[41,32,123,10])) x2;have w3:=f106 (u:=u) m.ε (S++([112,114,111,99,32]++ps[i].name++[40]++tp++[41,32,123,10])++dN ps[i].body [32,32]) [125,10] x2 [] (by simp;omega);have tG:kU (ps.take (i+1))=S++([112,114,111,99,32]++ps[i].name++[40]++tp++[41,32,123,10])++dN ps[i].body [32,32]++[125,10]:=by rw[kz];simp
    rw[tG];refine μ.fin (M:=fun st=>J i st/\PM (S++([112,114,111,99,32]++ps[i].name++[40]++tp++[41,32,123,10])++dN ps[i].body [32,32]++[125,10]) x2 st) .normal (by
     simp only[PM]
     generalize S++([112,114,111,99,32]++ps[i].name++[40]++tp++[41,32,123,10])++dN ps[i].body [32,32]++[125,10]=S5 at*;generalize S++([112,114,111,99,32]++ps[i].name++[40]++tp++[41,32,123,10])++dN ps[i].body [32,32]=S4 at*;generalize S++([112,114,111,99,32]++ps[i].name++[40]++tp++[41,32,123,10])=S3 at*;simp only[cj,eO,cI]at a1 a2 a3 a4 w1;simp[J,K2,K,h1,h2,h3,h4,h5,q1,q2,q3,q4,q5,q6,PA,a1,a2,a3,a4,w1,w2,w3,p1,dm,dy]) fun s' ⟨d1,d2⟩=>?_
    simp;exact⟨d1,x2,by simpa using d2⟩
  ·obtain⟨⟨⟨⟨h1,h2⟩,h4,h5⟩,q1,q2,q3⟩,x,h3⟩:=ψ;simp only[PM]at h3;rw[mL]at h3;refine μ.fin (M:=fun st=>K2 st/\PM (kU ps) x st) (.exit 0) (by simp[R_,K2,K,PM,h1,h2,h3,h4,h5,q1,q2,q3]) fun s' ⟨d1,d2⟩=>?_;exact⟨by simp,.inl ⟨rfl,.inl ⟨rfl,d1,x,d2⟩⟩⟩
 ·simp only[PM]at h3;have WD:=f111 (u:=u) m.ε (kU ps) x [];simp[h1,h2,h3,h4,h5,WD,hz]
attribute [local simp] bY
end Go.ah.Tz
