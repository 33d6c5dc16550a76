import Derived.Test.YtiigojkfojnedaaGreatDoorPHw
set_option linter.unusedVariables false
set_option linter.unusedSimpArgs false
set_option linter.unusedSectionVars false
set_option maxRecDepth 100000
set_option maxHeartbeats 8000000
open List renaming nil_append->cO,cons_append->eK,map_cons->ah,map_nil->aw,append_assoc->cr,getElem?_eq_getElem->eo,append_nil->dx,length_append->dB,getElem_mem->cz,take_succ_eq_append_getElem->rO,length_cons->dO,length_nil->fq,take_length->lX,length_take->kD,map_append->pJ,length_map->dq,map_map->di,take_of_length_le->dY
open Go.IntKind renaming wrap->aT
open Nat renaming le_refl->bQ,lt_or_ge->bP
namespace Go.ab.Tz
open Go.ab
variable{u:Nat}
attribute [local simp] exec eG eu fz aF d_ fQ fe bq gN bT gF gS hU hZ AV.cells newVar hH rd wr gg single fy er dL κ bf RV.get ba dU jy xB
theorem f171{id:Nat}(x:δ)(m:Mem)(hid:m.ε[id]?=some (.cells x.cells))(Θ:x.size.Ok)(hs:rk x.size)(hn:x.name.length<=8):
  aS (C u) (.fn (.func 171) [] [.μ id 0]) [] m=some (.str (x.name++[91]++x.size.text++[93]),m):=by
 have ν:=sk hid;refine rY (g:=Fa) rfl rfl rfl ?_;simp only[cO,eK,ah,aw,exp,ν,if_true,Fa,c171];have e:=fun m=>EC (u:=u) x.size Θ hs m;have hl:=nD hs;have k2:=lY x;have k4:=nO x;have kl:=δ.i_ x;generalize x.size.text=t at*;have a1:bF .add x.name [91]=some (.str (x.name++[91])):=bW (by simp;omega);have a2:bF .add (x.name++[91]) t=some (.str (x.name++[91]++t)):=bW (by simp;omega);have a3:bF .add (x.name++[91]++t) [93]=some (.str (x.name++[91]++t++[93])):=bW (by simp;omega);simp only[cr,eK,cO]at a1 a2 a3;simp[hid,k2,k4,kl,e,b_,cj,dG,AV.gh,AV.beq,a1,a2,a3]
theorem X_{g:Int}(h:1<=g/\g<=12):∃w,(bu.map AV.str)[(g-1).toNat]?=some (.str w)/\bu.getD (g-1).toNat []=w/\w.length<=4:=by
 obtain⟨k,hk⟩:∃k:Nat,(g-1).toNat=k:=⟨_,rfl⟩;rw[hk];have dm:k<12:=by omega
 match k,dm with
 |0,_|1,_|2,_|3,_|4,_|5,_|6,_|7,_|8,_|9,_|10,_|11,_=>exact⟨_,rfl,rfl,by decide⟩
section
variable{B:List θ}{x:δ}{s1:St}
variable(h1:s1.e 1= .μ B.length 0)(h2:s1.e 3= .fn (.func 171) [] [.μ B.length 0])(h3:s1.mem= {ε:=B++[.cells x.cells],η:=[]})(hb:(B++[.cells x.cells])[B.length]?=some (.cells x.cells))
 (oz:rk x.size->x.name.length<=8->∀T,aS (C u) (.fn (.func 171) [] [.μ B.length 0]) [] {ε:=B++[.cells x.cells],η:=T}=some (.str (x.name++[91]++x.size.text++[93]),{ε:=B++[.cells x.cells],η:=T}))
 (nj:yL x.pl->∀m,kf u 172 [.list x.cp (x.pl.map φ.av)] m=some (.str (jr x.pl),m))
 (es:rk x.size->∀m,kf u 114 [.agg x.size.four] m=some (.str x.size.text,m))
 (et:rk x.to->∀m,kf u 114 [.agg x.to.four] m=some (.str x.to.text,m))
 (hR:zT x.kind x.gate x.name x.pl x.size x.to)
 (k0:x.cells.take 1=[.n x.kind]) (k1:x.cells.tail.take 1=[.n x.gate]) (k2:(x.cells.drop 2).take 1=[.str x.name]) (k3:(x.cells.drop 3).take 1=[.list x.cp (x.pl.map φ.av)]) (k4:(x.cells.drop 4).take 4=x.size.four) (k8:(x.cells.drop 8).take 4=x.to.four) (kl:x.cells.length=14)
include h1 h2 h3 hb oz nj es et hR k0 k1 k2 k3 k4 k8 kl
theorem afL(hk:x.kind=1):κ (C u).gl (aS (C u)) c107.snd.snd s1 (End iM B (.str (da x.kind x.gate x.name x.pl x.size x.to))):=by
 obtain⟨nr,hg,hn,hp,hz,ht⟩:=hR;obtain⟨v,hv⟩:∃v,v=da x.kind x.gate x.name x.pl x.size x.to:=⟨_,rfl⟩;rw[<-hv];simp only[da]at hv;rw[hk]at k0;have e1:=nj (hp (by omega));have l1:=sR (hp (by omega));obtain⟨gw,w1,w2,w3⟩:=X_ (hg hk);have Zy:=hg hk;have CI:aT .i64 (x.gate-1)=x.gate-1:=wrap_i64 (by omega) (by omega);have Ro:0<=x.gate-1/\x.gate-1<12:=by omega
 have eB:(bu.map AV.str).length=12:=rfl;have Zx:(C u).gl 0= .ref [.list .any (bu.map AV.str)]:=zK;rw[w2]at hv;generalize bu.map AV.str=GW at*;generalize jr x.pl=tp at*;have a1:bF .add (gw) ([32])=some (.str (gw++([32]))):=bW (by simp;omega);have a2:bF .add (gw++([32])) (tp)=some (.str (gw++([32])++(tp))):=bW (by simp;omega);simp only[cr,eK,cO]at a1 a2;have hi:(x.gate-1).toNat<GW.length:=by rw[eB];omega
 have w1':GW[(x.gate-1).toNat]= .str gw:=by rw[eo hi]at w1;simpa using w1
 have qp:(x.gate-1).toNat=x.gate.toNat-1:=by omega
 have hq1:1<=x.gate:=Zy.1;have Ln:x.gate-1<12:=by omega
 have oG:x.gate.toNat-1<GW.length:=by omega
 have w12:GW[x.gate.toNat-1]= .str gw:=by rw[qp,eo oG]at w1;simpa using w1
 have KG:x.gate.toNat-1<12:=by omega
 simp[hk]at hv;subst hv;simp[c107,AC.snd,End,iM,h1,h2,h3,hb,kl,k0,b_,cj,dG,AV.gh,AV.beq,AV.fI,k1,k3,e1,Zx,eB,CI,hq1,Ln,KG,w12,a1,a2]
theorem afO(hk:x.kind=2):κ (C u).gl (aS (C u)) c107.snd.snd s1 (End iM B (.str (da x.kind x.gate x.name x.pl x.size x.to))):=by obtain⟨nr,hg,hn,hp,hz,ht⟩:=hR;obtain⟨v,hv⟩:∃v,v=da x.kind x.gate x.name x.pl x.size x.to:=⟨_,rfl⟩;rw[<-hv];simp only[da]at hv;rw[hk]at k0;have e1:=oz (hz (by omega)) (hn (by omega));have l1:=nD (hz (by omega));have l2:=hn (by omega);generalize x.size.text=ts at*;have a1:bF .add ([116,97,107,101,32]) (x.name++[91]++ts++[93])=some (.str ([116,97,107,101,32]++(x.name++[91]++ts++[93]))):=bW (by simp;omega);simp only[cr,eK,cO]at a1;simp only[cr,eK,cO]at e1;simp[hk]at hv;subst hv;simp[c107,AC.snd,End,iM,h1,h2,h3,hb,kl,k0,b_,cj,dG,AV.gh,AV.beq,AV.fI,e1,a1]
theorem afQ(hk:x.kind=4):κ (C u).gl (aS (C u)) c107.snd.snd s1 (End iM B (.str (da x.kind x.gate x.name x.pl x.size x.to))):=by obtain⟨nr,hg,hn,hp,hz,ht⟩:=hR;obtain⟨v,hv⟩:∃v,v=da x.kind x.gate x.name x.pl x.size x.to:=⟨_,rfl⟩;rw[<-hv];simp only[da]at hv;rw[hk]at k0;have e1:=oz (hz (by omega)) (hn (by omega));have l1:=nD (hz (by omega));have l2:=hn (by omega);generalize x.size.text=ts at*;have a1:bF .add ([98,111,114,114,111,119,32]) (x.name++[91]++ts++[93])=some (.str ([98,111,114,114,111,119,32]++(x.name++[91]++ts++[93]))):=bW (by simp;omega);simp only[cr,eK,cO]at a1;simp only[cr,eK,cO]at e1;simp[hk]at hv;subst hv;simp[c107,AC.snd,End,iM,h1,h2,h3,hb,kl,k0,b_,cj,dG,AV.gh,AV.beq,AV.fI,e1,a1]
theorem afP(hk:x.kind=3):κ (C u).gl (aS (C u)) c107.snd.snd s1 (End iM B (.str (da x.kind x.gate x.name x.pl x.size x.to))):=by obtain⟨nr,hg,hn,hp,hz,ht⟩:=hR;obtain⟨v,hv⟩:∃v,v=da x.kind x.gate x.name x.pl x.size x.to:=⟨_,rfl⟩;rw[<-hv];simp only[da]at hv;rw[hk]at k0;have l2:=hn (by omega);have a1:bF .add ([100,114,111,112,32]) (x.name)=some (.str ([100,114,111,112,32]++(x.name))):=bW (by simp;omega);simp only[cr,eK,cO]at a1;simp[hk]at hv;subst hv;simp[c107,AC.snd,End,iM,h1,h2,h3,hb,kl,k0,b_,cj,dG,AV.gh,AV.beq,AV.fI,k2,a1]
theorem afR(hk:x.kind=5):κ (C u).gl (aS (C u)) c107.snd.snd s1 (End iM B (.str (da x.kind x.gate x.name x.pl x.size x.to))):=by obtain⟨nr,hg,hn,hp,hz,ht⟩:=hR;obtain⟨v,hv⟩:∃v,v=da x.kind x.gate x.name x.pl x.size x.to:=⟨_,rfl⟩;rw[<-hv];simp only[da]at hv;rw[hk]at k0;have l2:=hn (by omega);have e1:=nj (hp (by omega));have l1:=sR (hp (by omega));generalize jr x.pl=tp at*;have a1:bF .add ([109,101,97,115,117,114,101,32]) (tp)=some (.str ([109,101,97,115,117,114,101,32]++(tp))):=bW (by simp;omega);have a2:bF .add ([109,101,97,115,117,114,101,32]++(tp)) ([32,58,32])=some (.str ([109,101,97,115,117,114,101,32]++(tp)++([32,58,32]))):=bW (by simp;omega);have a3:bF .add ([109,101,97,115,117,114,101,32]++(tp)++([32,58,32])) (x.name)=some (.str ([109,101,97,115,117,114,101,32]++(tp)++([32,58,32])++(x.name))):=bW (by simp;omega);simp only[cr,eK,cO]at a1 a2 a3;simp[hk]at hv;subst hv;simp[c107,AC.snd,End,iM,h1,h2,h3,hb,kl,k0,b_,cj,dG,AV.gh,AV.beq,AV.fI,k2,k3,e1,a1,a2,a3]
theorem afS(hk:x.kind=6):κ (C u).gl (aS (C u)) c107.snd.snd s1 (End iM B (.str (da x.kind x.gate x.name x.pl x.size x.to))):=by obtain⟨nr,hg,hn,hp,hz,ht⟩:=hR;obtain⟨v,hv⟩:∃v,v=da x.kind x.gate x.name x.pl x.size x.to:=⟨_,rfl⟩;rw[<-hv];simp only[da]at hv;rw[hk]at k0;have e1:=nj (hp (by omega));have l1:=sR (hp (by omega));generalize jr x.pl=tp at*;have a1:bF .add ([114,101,115,101,116,32]) (tp)=some (.str ([114,101,115,101,116,32]++(tp))):=bW (by simp;omega);simp only[cr,eK,cO]at a1;simp[hk]at hv;subst hv;simp[c107,AC.snd,End,iM,h1,h2,h3,hb,kl,k0,b_,cj,dG,AV.gh,AV.beq,AV.fI,k3,e1,a1]
theorem afT(hk:x.kind=7):κ (C u).gl (aS (C u)) c107.snd.snd s1 (End iM B (.str (da x.kind x.gate x.name x.pl x.size x.to))):=by obtain⟨nr,hg,hn,hp,hz,ht⟩:=hR;obtain⟨v,hv⟩:∃v,v=da x.kind x.gate x.name x.pl x.size x.to:=⟨_,rfl⟩;rw[<-hv];simp only[da]at hv;rw[hk]at k0;have l2:=hn (by omega);have a1:bF .add ([105,102,32]) (x.name)=some (.str ([105,102,32]++(x.name))):=bW (by simp;omega);simp only[cr,eK,cO]at a1;simp[hk]at hv;subst hv;simp[c107,AC.snd,End,iM,h1,h2,h3,hb,kl,k0,b_,cj,dG,AV.gh,AV.beq,AV.fI,k2,a1]
theorem afU(hk:x.kind=8):κ (C u).gl (aS (C u)) c107.snd.snd s1 (End iM B (.str (da x.kind x.gate x.name x.pl x.size x.to))):=by obtain⟨nr,hg,hn,hp,hz,ht⟩:=hR;obtain⟨v,hv⟩:∃v,v=da x.kind x.gate x.name x.pl x.size x.to:=⟨_,rfl⟩;rw[<-hv];simp only[da]at hv;rw[hk]at k0;have l2:=hn (by omega);have e1:=es (hz (by omega));have l1:=nD (hz (by omega));have e2:=et (ht (by omega));have l3:=nD (ht (by omega));generalize x.size.text=ts at*;generalize x.to.text=tt at*;have a1:bF .add ([102,111,114,32]) (x.name)=some (.str ([102,111,114,32]++(x.name))):=bW (by simp;omega);have a2:bF .add ([102,111,114,32]++(x.name)) ([32,61,32])=some (.str ([102,111,114,32]++(x.name)++([32,61,32]))):=bW (by simp;omega);have a3:bF .add ([102,111,114,32]++(x.name)++([32,61,32])) (ts)=some (.str ([102,111,114,32]++(x.name)++([32,61,32])++(ts))):=bW (by simp;omega);have a4:bF .add ([102,111,114,32]++(x.name)++([32,61,32])++(ts)) ([32,58,32])=some (.str ([102,111,114,32]++(x.name)++([32,61,32])++(ts)++([32,58,32]))):=bW (by simp;omega);have a5:bF .add ([102,111,114,32]++(x.name)++([32,61,32])++(ts)++([32,58,32])) (tt)=some (.str ([102,111,114,32]++(x.name)++([32,61,32])++(ts)++([32,58,32])++(tt))):=bW (by simp;omega);simp only[cr,eK,cO]at a1 a2 a3 a4 a5;simp[hk]at hv;subst hv;simp[c107,AC.snd,End,iM,h1,h2,h3,hb,kl,k0,b_,cj,dG,AV.gh,AV.beq,AV.fI,k2,k4,k8,e1,e2,a1,a2,a3,a4,a5]
theorem afV(hk:x.kind=9):κ (C u).gl (aS (C u)) c107.snd.snd s1 (End iM B (.str (da x.kind x.gate x.name x.pl x.size x.to))):=by obtain⟨nr,hg,hn,hp,hz,ht⟩:=hR;obtain⟨v,hv⟩:∃v,v=da x.kind x.gate x.name x.pl x.size x.to:=⟨_,rfl⟩;rw[<-hv];simp only[da]at hv;rw[hk]at k0;have l2:=hn (by omega);have e1:=nj (hp (by omega));have l1:=sR (hp (by omega));generalize jr x.pl=tp at*;have a1:bF .add (x.name) ([40])=some (.str (x.name++([40]))):=bW (by simp;omega);have a2:bF .add (x.name++([40])) (tp)=some (.str (x.name++([40])++(tp))):=bW (by simp;omega);have a3:bF .add (x.name++([40])++(tp)) ([41])=some (.str (x.name++([40])++(tp)++([41]))):=bW (by simp;omega);simp only[cr,eK,cO]at a1 a2 a3;simp[hk]at hv;subst hv;simp[c107,AC.snd,End,iM,h1,h2,h3,hb,kl,k0,b_,cj,dG,AV.gh,AV.beq,AV.fI,k2,k3,e1,a1,a2,a3]
theorem afM(hk:x.kind=10):κ (C u).gl (aS (C u)) c107.snd.snd s1 (End iM B (.str (da x.kind x.gate x.name x.pl x.size x.to))):=by obtain⟨nr,hg,hn,hp,hz,ht⟩:=hR;obtain⟨v,hv⟩:∃v,v=da x.kind x.gate x.name x.pl x.size x.to:=⟨_,rfl⟩;rw[<-hv];simp only[da]at hv;rw[hk]at k0;simp[hk]at hv;subst hv;simp[c107,AC.snd,End,iM,h1,h2,h3,hb,kl,k0,b_,cj,dG,AV.gh,AV.beq,AV.fI]
theorem afN(hk:x.kind=11):κ (C u).gl (aS (C u)) c107.snd.snd s1 (End iM B (.str (da x.kind x.gate x.name x.pl x.size x.to))):=by obtain⟨nr,hg,hn,hp,hz,ht⟩:=hR;obtain⟨v,hv⟩:∃v,v=da x.kind x.gate x.name x.pl x.size x.to:=⟨_,rfl⟩;rw[<-hv];simp only[da]at hv;rw[hk]at k0;simp[hk]at hv;subst hv;simp[c107,AC.snd,End,iM,h1,h2,h3,hb,kl,k0,b_,cj,dG,AV.gh,AV.beq,AV.fI]
end
theorem f107(x:δ)(hx:x.Ok)(hR:zT x.kind x.gate x.name x.pl x.size x.to)(m:Mem):kf u 107 [x.av] m=some (.str (da x.kind x.gate x.name x.pl x.size x.to),m):=by
 have dM:∀M:Mem,M.ρ=ρ:=fun _=>rfl;obtain⟨o1,o2,o3,o4⟩:=Nt hx;have kl:=δ.i_ x;have Cp:x.cells.map ρ=x.cells:=by rw[<-fC,δ.yF]
 refine bz (g:=iM) rfl rfl rfl ?_;simp only[ah,aw,δ.dH _ _ _ hx,iM,c107];refine χ (fun st=>st.e 1= .μ m.ε.length 0/\st.mem= {ε:=m.ε++[.cells x.cells],η:=[]}) (by simp[δ.av,kl,Mem.push,dM,Cp]) fun s1 ⟨h1,h3⟩=>?_;refine χ (fun st=>st.e 1= .μ m.ε.length 0/\st.e 3= .fn (.func 171) [] [.μ m.ε.length 0]/\st.mem= {ε:=m.ε++[.cells x.cells],η:=[]}) (by simp[h1,h3]) fun s1 ⟨h1,h2,h3⟩=>?_;show κ (C u).gl (aS (C u)) c107.snd.snd s1 (End iM m.ε (.str (da x.kind x.gate x.name x.pl x.size x.to)));have hb:(m.ε++[θ.cells x.cells])[m.ε.length]?=some (.cells x.cells):=by simp
 have oz:=fun hs hn T=>f171 (u:=u) (id:=m.ε.length) x {ε:=m.ε++[.cells x.cells],η:=T} hb o1 hs hn;have nj:=fun h m=>f172 (u:=u) x.cp o3 x.pl o4 h m;have es:=fun h m=>EC (u:=u) x.size o1 h m;have et:=fun h m=>EC (u:=u) x.to o2 h m;have nr:=hR.1;have oI:x.kind=1\/x.kind=2\/x.kind=3\/x.kind=4\/x.kind=5\/x.kind=6\/x.kind=7\/x.kind=8\/x.kind=9\/x.kind=10\/x.kind=11:=by omega
 rcases oI with hk|hk|hk|hk|hk|hk|hk|hk|hk|hk|hk
 ·exact afL h1 h2 h3 hb oz nj es et hR (cell0 x) (ot x) (lY x) (ou x) (nO x) (ov x) kl hk
 ·exact afO h1 h2 h3 hb oz nj es et hR (cell0 x) (ot x) (lY x) (ou x) (nO x) (ov x) kl hk
 ·exact afP h1 h2 h3 hb oz nj es et hR (cell0 x) (ot x) (lY x) (ou x) (nO x) (ov x) kl hk
 ·exact afQ h1 h2 h3 hb oz nj es et hR (cell0 x) (ot x) (lY x) (ou x) (nO x) (ov x) kl hk
 ·exact afR h1 h2 h3 hb oz nj es et hR (cell0 x) (ot x) (lY x) (ou x) (nO x) (ov x) kl hk
 ·exact afS h1 h2 h3 hb oz nj es et hR (cell0 x) (ot x) (lY x) (ou x) (nO x) (ov x) kl hk
 ·exact afT h1 h2 h3 hb oz nj es et hR (cell0 x) (ot x) (lY x) (ou x) (nO x) (ov x) kl hk
 ·exact afU h1 h2 h3 hb oz nj es et hR (cell0 x) (ot x) (lY x) (ou x) (nO x) (ov x) kl hk
 ·exact afV h1 h2 h3 hb oz nj es et hR (cell0 x) (ot x) (lY x) (ou x) (nO x) (ov x) kl hk
 ·exact afM h1 h2 h3 hb oz nj es et hR (cell0 x) (ot x) (lY x) (ou x) (nO x) (ov x) kl hk
 ·exact afN h1 h2 h3 hb oz nj es et hR (cell0 x) (ot x) (lY x) (ou x) (nO x) (ov x) kl hk
def pM(B:List θ)(s:List Nat):List θ:=B++[.nL 150 5 s,.cells [.fn (.func 105) [] [.μ B.length 0,.μ (B.length+1) 0]]]
theorem C3(B:List θ)(s:List Nat):(pM B s).length=B.length+2:=by simp[pM]
theorem TN(B:List θ)(s:List Nat)(ext:List θ):(pM B s++ext)[B.length]?=some (.nL 150 5 s):=by simp[pM]
theorem MA(B:List θ)(s:List Nat)(ext:List θ):(pM B s++ext)[B.length+1]?=some (.cells [.fn (.func 105) [] [.μ B.length 0,.μ (B.length+1) 0]]):=by simp[pM]
theorem pMs(B:List θ)(s:List Nat)(ext:List θ)(t:List Nat):(pM B s++ext).set B.length (.nL 150 5 t)=pM B t++ext:=by simp[pM]
theorem f106(B:List θ)(s t:List Nat)(ext:List θ)(T:List Nat)(h:s.length+t.length<=1000000000):
  kf u 106 [.μ B.length 0,.str t] {ε:=pM B s++ext,η:=T}=some (.aO [.n t.length,.ga],{ε:=pM B (s++t)++ext,η:=T}):=by
 refine Bo (p:=wT 150 5) (by rfl) ?_;have hl:B.length<(pM B s++ext).length:=by simp[C3];omega
 have h2:s.length+t.length<=140737488355328:=by omega
 have he:∀k,([]++[AV.μ B.length 0,.str t]++[]).map (exp (pM B s++ext).length k)=[.μ B.length 0,.str t]:=fun k=>by simp only[cO,dx,ah,aw,exp,hl,if_true]
 rw[he];simp only[wT,TN,h2,and_self,if_true,Mem.put,pMs]
def iY(k:Int):List Nat:=if k=7 then[101,108,115,101]else if k=11 then[97,112,112,108,121]else[]
theorem Wj(k:Int):(iY k).length<=5:=by unfold iY;split<;>(try split)<;>simp
theorem DT{y:δ}(h:0<y.blocks.length):cg y.kind=true/\y.blocks[0]?=some (y.cb,y.body):=by
 unfold δ.blocks at h⊢;by_cases he:cB y.kind=true
 ·have hb:cg y.kind=true:=by simp only[cg,cB,decide_eq_true_eq]at he⊢;omega
  simp[he,hb]
 ·by_cases hb:cg y.kind=true
  ·simp[he,hb]
  ·simp[he,hb]at h
theorem Wb{y:δ}(h:1<y.blocks.length):cB y.kind=true/\y.blocks[1]?=some (y.ce,y.aA):=by
 unfold δ.blocks at h⊢;by_cases he:cB y.kind=true
 ·simp[he]
 ·by_cases hb:cg y.kind=true
  ·simp[he,hb]at h
  ·simp[he,hb]at h
def iC(y:δ)(b:List Nat)(j:Nat):List Nat:=
 (if 0<j then[32,123,10]++de y.body (b++kE)else[])++(if 1<j/\¬(y.kind=7/\y.aA.length=0)then b++[125,32]++iY y.kind++[32,123,10]++de y.aA (b++kE)else[])
theorem adu(y:δ)(b:List Nat):oQ y b=b++da y.kind y.gate y.name y.pl y.size y.to++(iC y b y.blocks.length++(if 0<y.blocks.length then b++[125,10]else[59,10])):=by
 rw[Tb];unfold iC δ.blocks;by_cases he:cB y.kind=true
 ·have hb:cg y.kind=true:=by simp only[cg,cB,decide_eq_true_eq]at he⊢;omega
  have hk:y.kind=7\/y.kind=11:=by simpa only[cB,decide_eq_true_eq]using he
  have xO:iY y.kind=mE y.kind:=by rcases hk with h|h<;>simp[iY,mE,h]
  simp[he,hb,xO]
 ·by_cases hb:cg y.kind=true
  ·simp[he,hb]
  ·simp[he,hb]
theorem aeW(y:δ)(b:List Nat){j j':Nat}(h:j<=j'):(iC y b j).length<=(iC y b j').length:=by
 unfold iC;simp only[dB];have h1:(if 0<j then[32,123,10]++de y.body (b++kE)else[]).length<=(if 0<j' then[32,123,10]++de y.body (b++kE)else[]).length:=by
  by_cases h0:0<j
  ·rw[if_pos h0,if_pos (by omega)];exact bQ _
  ·rw[if_neg h0];simp
 have h2:(if 1<j/\¬(y.kind=7/\y.aA.length=0)then b++[125,32]++iY y.kind++[32,123,10]++de y.aA (b++kE)else[]).length<=(if 1<j'/\¬(y.kind=7/\y.aA.length=0)then b++[125,32]++iY y.kind++[32,123,10]++de y.aA (b++kE)else[]).length:=by
  by_cases h0:1<j/\¬(y.kind=7/\y.aA.length=0)
  ·rw[if_pos h0,if_pos ⟨by omega,h0.2⟩];exact bQ _
  ·rw[if_neg h0];simp
 omega
theorem adv(l:List δ)(b:List Nat)(i:Nat)(h:i<l.length):(de (l.take i) b).length+(oQ l[i] b).length<=(de l b).length:=by
 induction l generalizing i with
 |nil=>simp at h
 |cons a l ih=>
  cases i with
  |zero=>simp[de]
  |succ i=>
   have:=ih i (by simpa using h)
   simp only[List.take_succ_cons,de,dB,List.getElem_cons_succ];omega
theorem f105(B:List θ)(l:List δ):∀(c:Γ),aJ c->δ.cW l->δ.Rs l->∀b:List Nat,b.length+2*δ.cH l<=100->δ.bX l<1000000000->∀(s:List Nat),s.length+(de l b).length<=1000000000->∀(ext:List θ) (T:List Nat),
  aS (C u) (.fn (.func 105) [] [.μ B.length 0,.μ (B.length+1) 0]) [.list c (δ.ψ l),.str b] {ε:=pM B s++ext,η:=T}=some (.aO [],{ε:=pM B (s++de l b)++ext,η:=T}):=by
 refine δ.lists (P:=fun l=>∀(c:Γ),aJ c->δ.cW l->δ.Rs l->∀b:List Nat,b.length+2*δ.cH l<=100->δ.bX l<1000000000->∀(s:List Nat),s.length+(de l b).length<=1000000000->∀(ext:List θ) (T:List Nat),
  aS (C u) (.fn (.func 105) [] [.μ B.length 0,.μ (B.length+1) 0]) [.list c (δ.ψ l),.str b] {ε:=pM B s++ext,η:=T}=some (.aO [],{ε:=pM B (s++de l b)++ext,η:=T})) (fun l ih c hc Θ hR b hb hw s hs ext T=>?_) l
 refine lO (g:=EM) rfl rfl rfl (by simp[C3]) ?_;have Z3:B.length<(pM B s++ext).length:=by simp[C3];omega
 have Z4:B.length+1<(pM B s++ext).length:=by simp[C3];omega
 simp only[cO,eK,ah,aw,np hc Θ];simp only[exp,Z3,Z4,if_true,EM,c105];have gO:=δ.uh l;have dM:∀M:Mem,M.ρ=ρ:=fun _=>rfl;let K:St->Prop:=fun st=>st.e 1= .str b/\st.e 2= .μ B.length 0/\st.e 3= .μ (B.length+1) 0;let J:Nat->St->Prop:=fun i st=>K st/\st.e 11= .list c (δ.ψ l)/\st.e 12= .n l.length/\st.e 13= .n i;let PM:List Nat->List θ->St->Prop:=fun s x st=>st.mem= {ε:=pM B s++x,η:=[]};let I:Nat->St->Prop:=fun i st=>J i st/\∃x,PM (s++de (l.take i) b) (ext++x) st;refine χ (fun st=>J 0 st/\PM s ext st) (by simp[J,K,PM,ke]) fun s4 ⟨a1,a2⟩=>?_;refine κ.block (κ.upto (I:=I) l.length ⟨a1,[],by simpa[de]using a2⟩ (fun i st ν τ=>?_) (fun st τ=>?_))
 ·obtain⟨⟨⟨h1,h2,h3⟩,q1,q2,q3⟩,x,h4⟩:=τ;simp only[PM]at h4;have ej:aT .i64 ((i:Int)+1)=(i:Int)+1:=wrap_i64 (by omega) (by omega);have hg:=vh l i ν;have hm:l[i]∈l:=cz ν;have gD:=δ.gb Θ _ hm;have Kc:=δ.Uy hR _ hm;obtain⟨kN,gq⟩:=ih _ hm;have kL:=δ.my hm;have fM:=δ.yI gD;have nX:=δ.zj gD;have cD:=δ.vm l[i];have Rh:=P2 hm;have hle:=adv l b i ν;have iy:s++de (l.take (i+1)) b=(s++de (l.take i) b)++oQ l[i] b:=by rw[rO ν,Tc,cr]
  have YE:(s++de (l.take i) b).length+(oQ l[i] b).length<=1000000000:=by simp;omega
  generalize s++de (l.take i) b=S at*;generalize l[i]=y at*;have wj:=adu y b;obtain⟨Rr,GL,GM⟩:=Ri Kc;have hhl:=Rj Rr;have P8:=fun m=>f107 (u:=u) y gD Rr m;have qP:=fun m=>f108 (u:=u) y gD m;have po:=P1 y;have k0:=cell0 y;have kt:=zl y;have kl:=δ.i_ y;have eT:b.length<=100:=by omega
  have Ra:=Wj y.kind;generalize da y.kind y.gate y.name y.pl y.size y.to=hd at*;simp only[δ.av,h_]at hg P8 qP;have J':(oQ y b).length=b.length+hd.length+((iC y b y.blocks.length).length+(if 0<y.blocks.length then b.length+2 else 2)):=by rw[wj];simp only[dB];split<;>simp
  let J2:St->Prop:=fun st=>J i st/\∃v,st.e 7= .Ω 7 v 0/\st.q 7=some (v,.cells y.cells);refine χ (fun st=>J i st/\PM S (ext++x) st/\st.e 14= .bool true) (by simp[J,K,PM,h1,h2,h3,h4,q1,q2,q3,ν]) fun s5 ⟨⟨⟨h1,h2,h3⟩,q1,q2,q3⟩,h4,q4⟩=>?_;simp only[PM]at h4;refine χ (fun st=>J i st/\PM S (ext++x) st) (by simp[J,K,PM,h1,h2,h3,h4,q1,q2,q3,q4]) fun s5 ⟨⟨⟨h1,h2,h3⟩,q1,q2,q3⟩,h4⟩=>?_;simp only[PM]at h4;refine aZ (fun st=>J i st/\∃x2,PM (S++oQ y b) (ext++x2) st) ?_ fun s6 ⟨⟨⟨h1,h2,h3⟩,q1,q2,q3⟩,x2,h4⟩=>by simp only[PM]at h4;exact κ.fin (M:=fun st=>J (i+1) st/\PM (S++oQ y b) (ext++x2) st) .normal (by simp[J,K,PM,h1,h2,h3,h4,q1,q2,q3,ej]) fun s' ⟨d1,d2⟩=> .inl ⟨rfl,d1,x2,by rw[iy];exact d2⟩
  refine κ.block ?_;refine χ (fun st=>J2 st/\PM S (ext++x) st) (by simp[J2,J,K,PM,h1,h2,h3,h4,q1,q2,q3,ν,hg,kl,kt,ke]) fun s5 ⟨⟨⟨⟨h1,h2,h3⟩,q1,q2,q3⟩,v,q4,q5⟩,h4⟩=>?_;simp only[PM]at h4;have a1:bF .add b hd=some (.str (b++hd)):=bW (by omega);have w1:=f106 (u:=u) B S (b++hd) (ext++x) [] (by simp;omega);refine χ (fun st=>J2 st/\PM (S++(b++hd)) (ext++x) st) (by simp[J2,J,K,PM,h1,h2,h3,h4,q1,q2,q3,q4,q5,kl,kt,P8,a1,w1]) fun s5 ⟨⟨⟨⟨h1,h2,h3⟩,q1,q2,q3⟩,v,q4,q5⟩,h4⟩=>?_;simp only[PM]at h4;let x2:List θ:=x++[.map [(.n 7,.str [101,108,115,101]),(.n 11,.str [97,112,112,108,121])]];refine χ (fun st=>J2 st/\PM (S++(b++hd)) (ext++x2) st/\st.e 8= .str (iY y.kind)) (by
   have qs:pM B (S++(b++hd))++(ext++x2)=(pM B (S++(b++hd))++(ext++x))++[.map [(.n 7,.str [101,108,115,101]),(.n 11,.str [97,112,112,108,121])]]:=by simp[x2]
   simp only[PM];rw[qs];generalize pM B (S++(b++hd))++(ext++x)=BB at*;by_cases k7:y.kind=7
   ·rw[k7]at k0;simp[J2,J,K,h1,h2,h3,h4,q1,q2,q3,q4,q5,kl,k0,k7,Mem.push,Mem.put,isKey,plain,tP,jF,jo,iY,M9]
   ·by_cases CM:y.kind=11
    ·rw[CM]at k0;simp[J2,J,K,h1,h2,h3,h4,q1,q2,q3,q4,q5,kl,k0,CM,Mem.push,Mem.put,isKey,plain,tP,jF,jo,iY,M9]
    ·simp[J2,J,K,h1,h2,h3,h4,q1,q2,q3,q4,q5,kl,k0,k7,CM,Mem.push,Mem.put,isKey,plain,tP,jF,jo,iY,M9]) fun s5 ⟨⟨⟨⟨h1,h2,h3⟩,q1,q2,q3⟩,v,q4,q5⟩,h4,q6⟩=>?_
  simp only[PM]at h4;generalize QX:S++(b++hd)=S2 at*;have ag1:S2.length=S.length+b.length+hd.length:=by rw[<-QX];simp;omega
  refine aZ (fun st=>J2 st/\∃x3,PM (S2++iC y b y.blocks.length) (ext++x3) st) ?_ fun s5 ⟨⟨⟨⟨h1,h2,h3⟩,q1,q2,q3⟩,v,q4,q5⟩,x3,h4⟩=>?_
  ·let JB:St->Prop:=fun st=>J2 st/\st.e 8= .str (iY y.kind)/\st.e 28=h_ y/\st.e 29= .n y.blocks.length;let I2:Nat->St->Prop:=fun j st=>JB st/\st.e 30= .n j/\∃x3,PM (S2++iC y b j) (ext++x3) st;refine χ (fun st=>JB st/\st.e 30= .n 0/\PM S2 (ext++x2) st) (by simp[JB,J2,J,K,PM,h1,h2,h3,h4,q1,q2,q3,q4,q5,q6,kl,kt,qP,h_]) fun s6 ⟨a1,a2,a3⟩=>?_;refine κ.block (κ.upto (I:=I2) y.blocks.length ⟨a1,a2,x2,by simpa[iC]using a3⟩ (fun j st cY τ=>?_) (fun st τ=>?_))
   ·obtain⟨⟨⟨⟨⟨h1,h2,h3⟩,q1,q2,q3⟩,v,q4,q5⟩,q6,z1,z2⟩,z3,x3,h4⟩:=τ;simp only[PM]at h4;have cm:=aeW y b (show j+1<=y.blocks.length by omega);have YF:=YE;rw[J']at YF;have G_:2<=(if 0<y.blocks.length then b.length+2 else 2):=by split<;>omega
    have dt:y.blocks.length<=2:=by unfold δ.blocks;split<;>(try split)<;>simp
    have pz:aT .i64 ((j:Int)+1)=(j:Int)+1:=wrap_i64 (by omega) (by omega);simp only[h_,e_]at z1;have hj:j=0\/j=1:=by omega
    rcases hj with rfl|rfl
    ·obtain⟨Rt,eS⟩:=DT cY;have gj:y.blocks[0]=(y.cb,y.body):=by rw[eo cY]at eS;simpa using eS
     rw[Rt]at po;simp only[if_true]at po;have Lg:iC y b (0+1)=[32,123,10]++de y.body (b++[32,32]):=by simp[iC,kE]
     have ny:iC y b 0=[]:=by simp[iC]
     rw[Lg]at cm;rw[ny,dx]at h4;simp only[dB,dO,fq]at cm;have a1:bF .add b [32,32]=some (.str (b++[32,32])):=bW (by simp;omega);have w2:=f106 (u:=u) B S2 [32,123,10] (ext++x3) [] (by simp;omega);have w3:=kN y.cb nX.1 fM.1 (GL Rt) (b++[32,32]) (by simp;omega) (by omega) (S2++[32,123,10]) (by simp;omega) (ext++x3) [];have p1:=MA B (S2++[32,123,10]) (ext++x3);refine κ.fin (M:=fun st=>JB st/\st.e 30= .n 1/\PM (S2++[32,123,10]++de y.body (b++[32,32])) (ext++x3) st) .normal (by
      have nB:aT .i64 1=1:=by decide
      simp only[PM];generalize S2++[32,123,10]++de y.body (b++[32,32])=S4 at*;generalize S2++[32,123,10]=S3 at*;simp[Au,JB,J2,J,K,h1,h2,h3,h4,q1,q2,q3,q4,q5,q6,z1,z2,z3,cY,gj,w2,p1,a1,w3,h_,e_,nB]) fun s' ⟨d1,d2,d3⟩=> .inl ⟨rfl,d1,d2,x3,?_⟩
     rw[Lg,<-cr];exact d3
    ·obtain⟨Ru,bR⟩:=Wb cY;have gj:y.blocks[1]=(y.ce,y.aA):=by rw[eo cY]at bR;simpa using bR
     rw[Ru]at po;simp only[if_true]at po;have nB:aT .i64 2=2:=by decide
     have KY:(1:Int)<(y.blocks.length:Int):=by omega
     by_cases B8:y.kind=7/\y.aA.length=0
     ·have iu:iC y b (1+1)=iC y b 1:=by simp only[iC,B8];simp
      have GV:y.aA=[]:=List.eq_nil_of_length_eq_zero B8.2;rw[B8.1]at k0;refine κ.fin (M:=fun st=>JB st/\st.e 30= .n 2/\PM (S2++iC y b 1) (ext++x3) st) .normal (by
       simp only[PM]
       generalize S2++iC y b 1=S3 at*;simp[Au,JB,J2,J,K,h1,h2,h3,h4,q1,q2,q3,q4,q5,q6,z1,z2,z3,cY,KY,gj,kl,k0,GV,δ.ψ,h_,e_,nB]) fun s' ⟨d1,d2,d3⟩=> .inl ⟨rfl,d1,d2,x3,?_⟩
      rw[iu];exact d3
     ·have iu:iC y b (1+1)=iC y b 1++(b++[125,32]++iY y.kind)++[32,123,10]++de y.aA (b++[32,32]):=by simp only[iC,show 0<1+1 by decide,show 1<1+1 by decide,show 0<1 by decide,show¬1<1 by decide,if_true,B8,not_false_eq_true,and_self,kE,false_and,if_false,dx];simp
      rw[iu]at cm;simp only[dB,dO,fq]at cm;generalize GN:S2++iC y b 1=S3 at*;have YC:S3.length=S2.length+(iC y b 1).length:=by rw[<-GN];simp
      have a1:bF .add b [32,32]=some (.str (b++[32,32])):=bW (by simp;omega);have a2:bF .add b [125,32]=some (.str (b++[125,32])):=bW (by simp;omega);have a3:bF .add (b++[125,32]) (iY y.kind)=some (.str (b++[125,32]++iY y.kind)):=bW (by simp;omega);have w2:=f106 (u:=u) B S3 (b++[125,32]++iY y.kind) (ext++x3) [] (by simp;omega);have w3:=f106 (u:=u) B (S3++(b++[125,32]++iY y.kind)) [32,123,10] (ext++x3) [] (by simp;omega);have w4:=gq y.ce nX.2 fM.2 (GM Ru) (b++[32,32]) (by simp;omega) (by omega) (S3++(b++[125,32]++iY y.kind)++[32,123,10]) (by simp;omega) (ext++x3) [];have p1:=MA B (S3++(b++[125,32]++iY y.kind)++[32,123,10]) (ext++x3);have aj:y.kind=7->((y.aA.length:Int)==0)=false:=fun h=>by have:¬y.aA.length=0:=fun h2=>B8 ⟨h,h2⟩;simp;intro h3;rw[h3]at this;exact this rfl
      refine κ.fin (M:=fun st=>JB st/\st.e 30= .n 2/\PM (S3++(b++[125,32]++iY y.kind)++[32,123,10]++de y.aA (b++[32,32])) (ext++x3) st) .normal (by
       simp only[PM]
       generalize S3++(b++[125,32]++iY y.kind)++[32,123,10]++de y.aA (b++[32,32])=S6 at*;generalize S3++(b++[125,32]++iY y.kind)++[32,123,10]=S5 at*;generalize S3++(b++[125,32]++iY y.kind)=S4 at*;generalize b++[125,32]++iY y.kind=tb at*;by_cases k7:y.kind=7
       ·have Lb:=aj k7;rw[k7]at k0 q6 a3;simp[Au,JB,J2,J,K,h1,h2,h3,h4,q1,q2,q3,q4,q5,q6,z1,z2,z3,cY,KY,gj,kl,k0,k7,ke,Lb,w2,w3,p1,a1,a2,a3,w4,h_,e_,nB]
       ·simp[Au,JB,J2,J,K,h1,h2,h3,h4,q1,q2,q3,q4,q5,q6,z1,z2,z3,cY,KY,gj,kl,k0,dR k7,w2,w3,p1,a1,a2,a3,w4,h_,e_,nB]) fun s' ⟨d1,d2,d3⟩=> .inl ⟨rfl,d1,d2,x3,?_⟩
      have:S2++(iC y b 1++(b++[125,32]++iY y.kind)++[32,123,10]++de y.aA (b++[32,32]))=S3++(b++[125,32]++iY y.kind)++[32,123,10]++de y.aA (b++[32,32]):=by rw[<-GN];simp
      rw[iu,this];exact d3
   ·obtain⟨⟨⟨⟨⟨h1,h2,h3⟩,q1,q2,q3⟩,v,q4,q5⟩,q6,z1,z2⟩,z3,x3,h4⟩:=τ;simp only[PM]at h4;refine κ.fin (M:=fun st=>J2 st/\PM (S2++iC y b y.blocks.length) (ext++x3) st) (.exit 2) (by simp[Au,J2,J,K,PM,h1,h2,h3,h4,q1,q2,q3,q4,q5,q6,z1,z2,z3]) fun s' ⟨d1,d2⟩=>?_;exact⟨by simp,.inl ⟨rfl,.inl ⟨rfl,d1,x3,d2⟩⟩⟩
  ·simp only[PM]at h4;have Ka:S++oQ y b=S2++iC y b y.blocks.length++(if 0<y.blocks.length then b++[125,10]else[59,10]):=by rw[wj,<-QX];simp
   rw[Ka];generalize GN:S2++iC y b y.blocks.length=S3 at*;have YC:S3.length=S2.length+(iC y b y.blocks.length).length:=by rw[<-GN];simp
   by_cases h0:0<y.blocks.length
   ·rw[if_pos h0]at J'⊢;have vR:(0:Int)<(y.blocks.length:Int):=by omega
    have a1:bF .add b [125,10]=some (.str (b++[125,10])):=bW (by simp;omega);have w2:=f106 (u:=u) B S3 (b++[125,10]) (ext++x3) [] (by simp;omega);refine κ.fin (M:=fun st=>J i st/\PM (S3++(b++[125,10])) (ext++x3) st) .normal (by simp[J,K,PM,h1,h2,h3,h4,q1,q2,q3,q4,q5,kl,kt,qP,h0,vR,a1,w2]) fun s' ⟨d1,d2⟩=>?_;simp;exact⟨d1,x3,d2⟩
   ·rw[if_neg h0]at J'⊢;have vR:¬(0:Int)<(y.blocks.length:Int):=by omega
    have w2:=f106 (u:=u) B S3 [59,10] (ext++x3) [] (by simp;omega);refine κ.fin (M:=fun st=>J i st/\PM (S3++[59,10]) (ext++x3) st) .normal (by simp[J,K,PM,h1,h2,h3,h4,q1,q2,q3,q4,q5,kl,kt,qP,h0,vR,w2]) fun s' ⟨d1,d2⟩=>?_;simp;exact⟨d1,x3,d2⟩
 ·obtain⟨⟨⟨h1,h2,h3⟩,q1,q2,q3⟩,x,h4⟩:=τ;simp only[PM]at h4;rw[lX]at h4;simp[Sr,h1,h2,h3,h4,q1,q2,q3,Qs]
theorem f111(B:List θ)(s:List Nat)(ext:List θ)(T:List Nat):
  kf u 111 [.μ B.length 0] {ε:=pM B s++ext,η:=T}=some (.str s,{ε:=B++([.dead,.cells [.fn (.func 105) [] [.μ B.length 0,.μ (B.length+1) 0]]]++ext),η:=T}):=by
 refine Bo (p:=wS 150 5) (by rfl) ?_;have hl:B.length<(pM B s++ext).length:=by simp[C3];omega
 have he:∀k,([]++[AV.μ B.length 0]++[]).map (exp (pM B s++ext).length k)=[.μ B.length 0]:=fun k=>by simp only[cO,dx,ah,aw,exp,hl,if_true]
 rw[he];simp only[wS,TN,and_self,if_true,Mem.put];simp[pM]
def ML(ps:List ω):List Nat:=if kG ps=0 then gu ps else[]
theorem f25(aN:Γ)(cu:aJ aN)(ps:List ω)(bo:∀x∈ps,x.Ok)(dc:kR ps<1000000000)(m:Mem):
  kf u 25 [dA aN ps] m=some (.aO [.str (ML ps),.n (kG ps)],m):=by
 have Ek:=fun m=>f43 (u:=u) aN cu ps bo (by omega) m;refine bz (g:=FZ) rfl rfl rfl ?_;simp only[ah,aw,l0 cu bo];simp only[FZ,O9,dA]at Ek⊢;have hz:∀bs n (a:List Nat) (i:Int),ax bs n 8 (.aO [.str a,.n i])= .aO [.str a,.n i]:=fun _ _ _ _=>rfl;have dM:∀M:Mem,M.ρ=ρ:=fun _=>rfl;let K:St->Prop:=fun st=>st.e 1= .Ω 1 0 0/\st.q 1=some (0,.cells [.list aN (ps.map ω.av)]);refine χ (fun st=>K st/\st.mem= {ε:=m.ε,η:=[]}) (by simp[K,aQ]) fun s1 ⟨⟨h1,h2⟩,h3⟩=>?_;unfold ML;by_cases hc:kG ps=0
 case neg=>
  rw[if_neg hc]
  refine aZ (fun _=>False) ?_ fun _ h=>h.elim;simp[h1,h2,h3,Ek,bne_true hc,hz]
 rw[if_pos hc];obtain⟨ZX,hR⟩:=Jd hc;rw[hc]at Ek⊢;refine χ (fun st=>K st/\st.mem= {ε:=m.ε,η:=[]}) (by simp[K,h1,h2,h3,Ek]) fun s1 ⟨⟨h1,h2⟩,h3⟩=>?_;refine χ (fun st=>K st/\st.e 5= .μ m.ε.length 0/\st.mem= {ε:=m.ε++[.nL 150 5 []],η:=[]}) (by simp[K,h1,h2,h3,Mem.push]) fun s1 ⟨⟨h1,h2⟩,h4,h3⟩=>?_;refine χ (fun st=>K st/\st.e 5= .μ m.ε.length 0/\st.e 6= .μ (m.ε.length+1) 0/\st.mem= {ε:=m.ε++[.nL 150 5 [],.cells [.eU]],η:=[]}) (by simp[K,h1,h2,h3,h4,Mem.push,dM,ρ]) fun s1 ⟨⟨h1,h2⟩,h4,h5,h3⟩=>?_;let PM:List Nat->List θ->St->Prop:=fun s x st=>st.mem= {ε:=pM m.ε s++x,η:=[]};let K2:St->Prop:=fun st=>K st/\st.e 5= .μ m.ε.length 0/\st.e 6= .μ (m.ε.length+1) 0;refine χ (fun st=>K2 st/\PM [] [] st) (by simp[K2,K,PM,pM,h1,h2,h3,h4,h5,Mem.put,dM,ρ,cL,bh,lo,Fn.below]) fun s1 ⟨⟨⟨h1,h2⟩,h4,h5⟩,h3⟩=>?_;simp only[PM]at h3;refine aZ (fun st=>K2 st/\∃x,PM (gu ps) x st) ?_ fun s1 ⟨⟨⟨h1,h2⟩,h4,h5⟩,x,h3⟩=>?_
 ·let J:Nat->St->Prop:=fun i st=>K2 st/\st.e 19= .list aN (ps.map ω.av)/\st.e 20= .n ps.length/\st.e 21= .n i;let I:Nat->St->Prop:=fun i st=>J i st/\∃x,PM (gu (ps.take i)) x st;refine χ (fun st=>J 0 st/\PM [] [] st) (by simp[J,K2,K,PM,h1,h2,h3,h4,h5]) fun s4 ⟨a1,a2⟩=>?_;refine κ.block (κ.upto (I:=I) ps.length ⟨a1,[],a2⟩ (fun i st ν τ=>?_) (fun st τ=>?_))
  ·obtain⟨⟨⟨⟨h1,h2⟩,h4,h5⟩,q1,q2,q3⟩,x,h3⟩:=τ;simp only[PM]at h3;have ej:aT .i64 ((i:Int)+1)=(i:Int)+1:=wrap_i64 (by omega) (by omega);have hm:ps[i]∈ps:=cz ν;have Θ:=bo _ hm;have hr:=hR _ hm;have kL:=ω.my hm;simp only[ω.wt]at kL;have Q0:(gu (ps.take i)).length<=2400000:=by have:=TW (ps.take i) fun x hx=>hR x (List.mem_of_mem_take hx);rw[kD]at this;omega
   have iy:gu (ps.take (i+1))=gu (ps.take i)++ps[i].text:=by rw[rO ν,TV]
   have gO:=CT ps[i].body [32,32] hr.body (by have:=hr.cH;simp;omega) (by have:=hr.aU;omega);have kr:=hr.name;have uQ:=hr.ay;have uR:=hr.par;have Ll:=MB _ uR uQ;simp only[ω.text,kE]at iy;generalize gu (ps.take i)=S at*;let P:List AV:=[.str ps[i].name,.list ps[i].cp (ps[i].ay.map aC.av),.list ps[i].cb (δ.ψ ps[i].body)];let J2:St->Prop:=fun st=>J i st/\∃v,st.e 8= .Ω 8 v 0/\st.q 8=some (v,.cells P);refine χ (fun st=>J i st/\PM S x st/\st.e 22= .bool true) (by simp[J,K2,K,PM,h1,h2,h3,h4,h5,q1,q2,q3,ν]) fun s5 ⟨⟨⟨⟨h1,h2⟩,h4,h5⟩,q1,q2,q3⟩,h3,q4⟩=>?_;simp only[PM]at h3;refine χ (fun st=>J i st/\PM S x st) (by simp[J,K2,K,PM,h1,h2,h3,h4,h5,q1,q2,q3,q4]) fun s5 ⟨⟨⟨⟨h1,h2⟩,h4,h5⟩,q1,q2,q3⟩,h3⟩=>?_;simp only[PM]at h3;refine aZ (fun st=>J i st/\∃x2,PM (gu (ps.take (i+1))) x2 st) ?_ fun s6 ⟨⟨⟨⟨h1,h2⟩,h4,h5⟩,q1,q2,q3⟩,x2,h3⟩=>by simp only[PM]at h3;exact κ.fin (M:=fun st=>J (i+1) st/\PM (gu (ps.take (i+1))) x2 st) .normal (by simp[J,K2,K,PM,h1,h2,h3,h4,h5,q1,q2,q3,ej]) fun s' ⟨d1,d2⟩=> .inl ⟨rfl,d1,x2,d2⟩
   refine κ.block ?_;refine χ (fun st=>J2 st/\PM S x st) (by simp[J2,J,K2,K,PM,P,h1,h2,h3,h4,h5,q1,q2,q3,ν,ω.av]) fun s5 ⟨⟨⟨⟨⟨h1,h2⟩,h4,h5⟩,q1,q2,q3⟩,v,q4,q5⟩,h3⟩=>?_;simp only[PM]at h3;simp only[P]at q5;refine χ (fun st=>J2 st/\PM S x st/\st.e 9= .list .nil []) (by simp[J2,J,K2,K,PM,P,h1,h2,h3,h4,h5,q1,q2,q3,q4,q5]) fun s5 ⟨⟨⟨⟨⟨h1,h2⟩,h4,h5⟩,q1,q2,q3⟩,v,q4,q5⟩,h3,q6⟩=>?_;simp only[PM]at h3;simp only[P]at q5;refine aZ (fun st=>J2 st/\∃x2 cp,PM S x2 st/\st.e 9= .list cp ((ps[i].ay.map aC.text).map AV.str)) ?_ fun s6 ⟨⟨⟨⟨⟨h1,h2⟩,h4,h5⟩,q1,q2,q3⟩,v,q4,q5⟩,x2,cp,h3,q6⟩=>?_
   ·let JX:St->Prop:=fun st=>J2 st/\st.e 26= .list ps[i].cp (ps[i].ay.map aC.av)/\st.e 27= .n ps[i].ay.length;let I2:Nat->St->Prop:=fun k st=>JX st/\st.e 28= .n k/\∃x2 cp,PM S x2 st/\st.e 9= .list cp (((ps[i].ay.take k).map aC.text).map AV.str)/\mZ (pM m.ε S).length (pM m.ε S++x2) 1 9 cp k;refine χ (fun st=>JX st/\st.e 28= .n 0/\PM S x st/\st.e 9= .list .nil []) (by simp[JX,J2,J,K2,K,PM,P,h1,h2,h3,h4,h5,q1,q2,q3,q4,q5,q6]) fun s6 ⟨a1,a2,a3,a4⟩=>?_;refine κ.block (κ.upto (I:=I2) ps[i].ay.length ⟨a1,a2,x,.nil,a3,a4,mZ.nil⟩ (fun k st cY τ=>?_) (fun st τ=>?_))
    ·obtain⟨⟨⟨⟨⟨⟨h1,h2⟩,h4,h5⟩,q1,q2,q3⟩,v,q4,q5⟩,z1,z2⟩,z3,x2,cp,h3,z4,r⟩:=τ;simp only[PM]at h3;simp only[P]at q5;have yk:aT .i64 ((k:Int)+1)=(k:Int)+1:=wrap_i64 (by omega) (by omega);have uS:ps[i].ay[k]∈ps[i].ay:=cz cY;obtain⟨n1,n2,n3⟩:=uR _ uS;have Xe:=fun m=>f109 (u:=u) ps[i].ay[k].size (by omega) (by omega) m;have hd:=Bu ps[i].ay[k].size.toNat;have mf:((ps[i].ay.take (k+1)).map aC.text).map AV.str=((ps[i].ay.take k).map aC.text).map AV.str++[.str (ps[i].ay[k]).text]:=by rw[rO cY,pJ,pJ];rfl
     have Kb:(((ps[i].ay.take k).map aC.text).map AV.str).length=k:=by rw[dq,dq,kD];omega
     have Ls:=(Nh 0 ((ps[i].ay.take k).map aC.text)).s;generalize((ps[i].ay.take k).map aC.text).map AV.str=LQ at*;obtain⟨dS,x3,b1,b2,-⟩:=Nf (v:=(ps[i].ay[k]).text) r Kb Ls (by omega);simp only[aC.text]at b1 mf;generalize nf ps[i].ay[k].size.toNat=td at*;have a1:bF .add ps[i].ay[k].name [91]=some (.str (ps[i].ay[k].name++[91])):=bW (by simp;omega);have a2:bF .add (ps[i].ay[k].name++[91]) td=some (.str (ps[i].ay[k].name++[91]++td)):=bW (by simp;omega);have a3:bF .add (ps[i].ay[k].name++[91]++td) [93]=some (.str (ps[i].ay[k].name++[91]++td++[93])):=bW (by simp;omega);simp only[cr,eK,cO]at a1 a2 a3 b1 mf;refine κ.fin (M:=fun st=>JX st/\st.e 28= .n ((k:Int)+1)/\PM S x3 st/\st.e 9= .list dS (LQ++[.str (ps[i].ay[k].name++91::(td++[93]))])) .normal (by simp[L5,JX,J2,J,K2,K,PM,P,h1,h2,h3,h4,h5,q1,q2,q3,q4,q5,z1,z2,z3,z4,cY,aC.av,Xe,a1,a2,a3,b_,cj,shaped,AV.one,dM,ρ,b1,yk]) fun s' ⟨d1,d2,d3,d4⟩=> .inl ⟨rfl,d1,d2,x3,dS,d3,by rw[mf];exact d4,b2⟩
    ·obtain⟨⟨⟨⟨⟨⟨h1,h2⟩,h4,h5⟩,q1,q2,q3⟩,v,q4,q5⟩,z1,z2⟩,z3,x2,cp,h3,z4,r⟩:=τ;simp only[PM]at h3;simp only[P]at q5;rw[lX]at z4;refine κ.fin (M:=fun st=>J2 st/\PM S x2 st/\st.e 9= .list cp ((ps[i].ay.map aC.text).map AV.str)) (.exit 2) (by simp[L5,J2,J,K2,K,PM,P,h1,h2,h3,h4,h5,q1,q2,q3,q4,q5,z1,z2,z3,z4]) fun s' ⟨d1,d2,d3⟩=>?_;exact⟨by simp,.inl ⟨rfl,.inl ⟨rfl,d1,x2,cp,d2,d3⟩⟩⟩
   ·simp only[PM]at h3;simp only[P]at q5;have P9:=fun c m=>f110 (u:=u) c (ps[i].ay.map aC.text) (by omega) (by rw[dq];omega) m;rw[di]at q6 P9;generalize iJ (ps[i].ay.map aC.text)=tp at*;have a1:bF .add [112,114,111,99,32] ps[i].name=some (.str ([112,114,111,99,32]++ps[i].name)):=bW (by simp;omega);have a2:bF .add ([112,114,111,99,32]++ps[i].name) [40]=some (.str ([112,114,111,99,32]++ps[i].name++[40])):=bW (by simp;omega);have a3:bF .add ([112,114,111,99,32]++ps[i].name++[40]) tp=some (.str ([112,114,111,99,32]++ps[i].name++[40]++tp)):=bW (by simp;omega);have a4:bF .add ([112,114,111,99,32]++ps[i].name++[40]++tp) [41,32,123,10]=some (.str ([112,114,111,99,32]++ps[i].name++[40]++tp++[41,32,123,10])):=bW (by simp;omega);have w1:=f106 (u:=u) m.ε S ([112,114,111,99,32]++ps[i].name++[40]++tp++[41,32,123,10]) x2 [] (by simp;omega);have w2:=f105 (u:=u) m.ε ps[i].body ps[i].cb Θ.2.2.2.1 Θ.2.2.2.2.1 hr.body [32,32] (by have:=hr.cH;simp;omega) (by omega) (S++([112,114,111,99,32]++ps[i].name++[40]++tp++[41,32,123,10])) (by simp;omega) x2 [];have p1:=MA m.ε (S++([112,114,111,99,32]++ps[i].name++[40]++tp++[41,32,123,10])) x2;have w3:=f106 (u:=u) m.ε (S++([112,114,111,99,32]++ps[i].name++[40]++tp++[41,32,123,10])++de ps[i].body [32,32]) [125,10] x2 [] (by simp;omega);have qY:gu (ps.take (i+1))=S++([112,114,111,99,32]++ps[i].name++[40]++tp++[41,32,123,10])++de ps[i].body [32,32]++[125,10]:=by rw[iy];simp
    rw[qY];refine κ.fin (M:=fun st=>J i st/\PM (S++([112,114,111,99,32]++ps[i].name++[40]++tp++[41,32,123,10])++de ps[i].body [32,32]++[125,10]) x2 st) .normal (by
     simp only[PM]
     generalize S++([112,114,111,99,32]++ps[i].name++[40]++tp++[41,32,123,10])++de ps[i].body [32,32]++[125,10]=S5 at*;generalize S++([112,114,111,99,32]++ps[i].name++[40]++tp++[41,32,123,10])++de ps[i].body [32,32]=S4 at*;generalize S++([112,114,111,99,32]++ps[i].name++[40]++tp++[41,32,123,10])=S3 at*;simp only[cr,eK,cO]at a1 a2 a3 a4 w1;simp[J,K2,K,h1,h2,h3,h4,h5,q1,q2,q3,q4,q5,q6,P9,a1,a2,a3,a4,w1,w2,w3,p1,b_,cj]) fun s' ⟨d1,d2⟩=>?_
    simp;exact⟨d1,x2,by simpa using d2⟩
  ·obtain⟨⟨⟨⟨h1,h2⟩,h4,h5⟩,q1,q2,q3⟩,x,h3⟩:=τ;simp only[PM]at h3;rw[lX]at h3;refine κ.fin (M:=fun st=>K2 st/\PM (gu ps) x st) (.exit 0) (by simp[SP,K2,K,PM,h1,h2,h3,h4,h5,q1,q2,q3]) fun s' ⟨d1,d2⟩=>?_;exact⟨by simp,.inl ⟨rfl,.inl ⟨rfl,d1,x,d2⟩⟩⟩
 ·simp only[PM]at h3;have Xf:=f111 (u:=u) m.ε (gu ps) x [];simp[h1,h2,h3,h4,h5,Xf,hz]
attribute [local simp] bF
theorem JN(x:ζ)(Θ:x.Ok)(hc:x.cnt<1000000000000)(m:Mem):kf u 28 [.agg x.copy.four,.agg x.four] m=some (.bool true,m):=by have:=f28 (u:=u) x Θ hc m;rwa[ζ.gA,ζ.gA]at this
theorem f152(p:φ)(Θ:p.Ok)(hw:p.wt<1000000000000)(m:Mem):kf u 152 [p.copy.av,p.av] m=some (.bool true,m):=by
 refine bz (g:=E5) rfl rfl rfl ?_;simp only[ah,aw,φ.dH _ _ _ Θ,φ.dH _ _ _ (TS p Θ),E5,c152];have cD:=MG p;let K:St->Prop:=fun st=>st.e 2= .Ω 2 0 0/\st.q 2=some (0,.cells [.str p.name,.list (kp p.ix) (ζ.ψ (gU p.ix))])/\st.e 3= .Ω 3 0 0/\st.q 3=some (0,.cells [.str p.name,.list p.c (ζ.ψ p.ix)])/\st.mem= {ε:=m.ε,η:=[]};refine χ (K) (by rw[φ.Jk];simp[K,φ.av,aQ,ζ.dZ]) fun s1 ⟨h1,h2,h3,h4,h5⟩=>?_;have du:(ζ.ψ (gU p.ix)).length=p.ix.length:=by rw[iX,xt]
 refine χ (K) (by simp[K,h1,h2,h3,h4,h5,du,iX]) fun s1 ⟨h1,h2,h3,h4,h5⟩=>?_;refine aZ (K) ?_ fun s2 ⟨h1,h2,h3,h4,h5⟩=>by simp[h5]
 let I:Nat->St->Prop:=fun i st=>K st/\st.e 5= .n i;refine χ (I 0) (by simp[I,K,h1,h2,h3,h4,h5]) fun s4 hI=>?_;refine κ.block (κ.loop (I:=I) p.ix.length hI fun i st hi τ=>?_);obtain⟨⟨h1,h2,h3,h4,h5⟩,q1⟩:=τ;rcases bP i p.ix.length with ν|cD
 ·have ej:aT .i64 ((i:Int)+1)=(i:Int)+1:=wrap_i64 (by omega) (by omega);have hm:p.ix[i]∈p.ix:=cz ν;have e:=fun m=>JN (u:=u) p.ix[i] (Θ.2.2 _ hm).1 (by have:=ζ.vG hm;simp only[φ.wt]at hw;omega) m;have g1:=tq p.ix i ν;have g2:=tq (gU p.ix) i (by rw[xt];exact ν);rw[PN p.ix i ν,ζ.gA]at g2;rw[ζ.gA]at g1;have l1:=ζ.fK p.ix[i];have l2:=ζ.fK (p.ix[i]).copy;have t1:(p.ix[i]).four.take 4=(p.ix[i]).four:=dY (by omega);have t2:(p.ix[i]).copy.four.take 4=(p.ix[i]).copy.four:=dY (by omega);left;refine⟨ν,?_⟩;simp[-er,-dL,y8,I,K,LZ,h1,h2,h3,h4,h5,q1,ν,du,iX,g1,g2,l1,l2,t1,t2,e,ej]
 ·right;have:i=p.ix.length:=by omega
  subst this;simp[K,LZ,h1,h2,h3,h4,h5,q1,du,iX]
theorem W0(y:δ):y.copy.kind=y.kind/\y.copy.gate=y.gate/\y.copy.name=y.name/\y.copy.cp=kp y.pl/\y.copy.pl=y.pl.map φ.copy/\y.copy.size=y.size.copy/\y.copy.to=y.to.copy/\y.copy.cb=kp y.body/\y.copy.body=gI y.body/\y.copy.ce=kp y.aA/\y.copy.aA=gI y.aA:=by cases y;exact⟨rfl,rfl,rfl,rfl,rfl,rfl,rfl,rfl,rfl,rfl,rfl⟩
theorem af8(l:List δ)(i:Nat)(h:i<l.length):(gI l)[i]'(by rw[M7];exact h)=l[i].copy:=by simp[M6]
theorem f80(l:List δ):∀(c1 c:Γ),aJ c1->aJ c->δ.cW l->δ.bX l<1000000000->∀m,kf u 80 [.list c1 (δ.ψ (gI l)),.list c (δ.ψ l)] m=some (.bool true,m):=by
 refine δ.lists (P:=fun l=>∀(c1 c:Γ),aJ c1->aJ c->δ.cW l->δ.bX l<1000000000->∀m,kf u 80 [.list c1 (δ.ψ (gI l)),.list c (δ.ψ l)] m=some (.bool true,m)) (fun l ih c1 c zQ hc Θ hw m=>?_) l;refine bz (g:=GD) rfl rfl rfl ?_;simp only[ah,aw,np hc Θ,np zQ (UE l Θ),GD,c80];have gO:=δ.uh l;have du:(δ.ψ (gI l)).length=l.length:=by rw[ke,M7]
 let K:St->Prop:=fun st=>st.e 0= .list c1 (δ.ψ (gI l))/\st.e 1= .list c (δ.ψ l)/\st.mem= {ε:=m.ε,η:=[]};refine χ (K) (by simp[K]) fun s1 ⟨h1,h2,h3⟩=>?_;refine χ (K) (by simp[K,h1,h2,h3,du,ke]) fun s1 ⟨h1,h2,h3⟩=>?_;refine aZ (K) ?_ fun s2 ⟨h1,h2,h3⟩=>by simp[h3]
 let J:Nat->St->Prop:=fun i st=>K st/\st.e 5= .n i;refine χ (J 0) (by simp[J,K,h1,h2,h3]) fun s4 hI=>?_;refine κ.block (κ.upto (I:=J) l.length hI (fun i st ν τ=>?_) (fun st τ=>?_))
 ·obtain⟨⟨h1,h2,h3⟩,q1⟩:=τ;have ej:aT .i64 ((i:Int)+1)=(i:Int)+1:=wrap_i64 (by omega) (by omega);have g1:=vh l i ν;have g2:=vh (gI l) i (by rw[M7];exact ν);rw[af8 l i ν]at g2;have hm:l[i]∈l:=cz ν;have gD:=δ.gb Θ _ hm;obtain⟨kN,gq⟩:=ih _ hm;have kL:=δ.my hm;have fM:=δ.yI gD;have nX:=δ.zj gD;have cD:=δ.vm l[i];generalize l[i]=y at*;obtain⟨o1,o2,o3,o4⟩:=Nt gD;have τ:gH y.pl+y.size.cnt+y.to.cnt<=y.wt:=by obtain⟨k,g,nm,cp,pl,size,to,cb,body,ce,aA⟩:=y;simp only[δ.wt,δ.pl,δ.size,δ.to];omega
  have es:=fun m=>JN (u:=u) y.size o1 (by omega) m;have et:=fun m=>JN (u:=u) y.to o2 (by omega) m;have eb:=fun m=>kN (kp y.body) y.cb (vE _) nX.1 fM.1 (by omega) m;have ee:=fun m=>gq (kp y.aA) y.ce (vE _) nX.2 fM.2 (by omega) m;obtain⟨p1,p2,p3,p4,p5,p6,p7,p8,p9,p10,p11⟩:=W0 y;have k0:=cell0 y;have k1:=ot y;have k2:=lY y;have k3:=ou y;have k4:=nO y;have k8:=ov y;have pB:=D9 y;have uZ:=D_ y;have kt:=zl y;have kl:=δ.i_ y;have j0:=cell0 y.copy;have j1:=ot y.copy;have j2:=lY y.copy;have j3:=ou y.copy;have j4:=nO y.copy;have j8:=ov y.copy;have Hm:=D9 y.copy;have Hn:=D_ y.copy;have jt:=zl y.copy;have jl:=δ.i_ y.copy;rw[p1]at j0;rw[p2]at j1;rw[p3]at j2;rw[p4,p5,di]at j3;rw[p6]at j4;rw[p7]at j8;rw[p8,p9]at Hm;rw[p10,p11]at Hn;simp only[δ.av]at g1 g2;refine χ (J i) (by simp[J,K,h1,h2,h3,q1,ν,du]) fun s5 ⟨⟨h1,h2,h3⟩,q1⟩=>?_;refine aZ (J i) ?_ fun s6 ⟨⟨h1,h2,h3⟩,q1⟩=>by simp[J,K,h1,h2,h3,q1,ej]
  refine κ.block ?_;let J2:St->Prop:=fun st=>J i st/\(∃v,st.e 6= .Ω 6 v 0/\st.q 6=some (v,.cells y.copy.cells))/\∃v,st.e 7= .Ω 7 v 0/\st.q 7=some (v,.cells y.cells);refine χ (J2) (by simp[J2,J,K,h1,h2,h3,q1,ν,du,ke,g1,g2,kl,kt,jl,jt,b_,mF,cj,dG,AV.fI]) fun s5 ⟨⟨⟨h1,h2,h3⟩,q1⟩,⟨v6,z1,z2⟩,v7,z3,z4⟩=>?_;refine χ (J2) (by simp[J2,J,K,h1,h2,h3,q1,z1,z2,z3,z4,kl,jl,k0,k1,k2,k3,k4,k8,pB,uZ,j0,j1,j2,j3,j4,j8,Hm,Hn,es,et,eb,ee]) fun s5 ⟨⟨⟨h1,h2,h3⟩,q1⟩,⟨v6,z1,z2⟩,v7,z3,z4⟩=>?_;have Ll:=MF y.pl;let I2:Nat->St->Prop:=fun k st=>J2 st/\st.e 8= .n k;refine χ (I2 0) (by simp[I2,J2,J,K,h1,h2,h3,q1,z1,z2,z3,z4]) fun s6 hI=>?_;refine κ.block (κ.loop (I:=I2) y.pl.length hI fun k st hk τ=>?_);obtain⟨⟨⟨⟨h1,h2,h3⟩,q1⟩,⟨v6,z1,z2⟩,v7,z3,z4⟩,z5⟩:=τ;rcases bP k y.pl.length with cY|Rp
  ·have yk:aT .i64 ((k:Int)+1)=(k:Int)+1:=wrap_i64 (by omega) (by omega);have uS:y.pl[k]∈y.pl:=cz cY;have Jy:=fun m=>f152 (u:=u) y.pl[k] (o4 _ uS) (by have:=φ.my uS;omega) m;rw[φ.Jk]at Jy;have Lh:y.pl[k].av= .agg [.str y.pl[k].name,.list y.pl[k].c (ζ.ψ y.pl[k].ix)]:=by simp[φ.av,ζ.dZ]
   rw[Lh]at Jy;left;refine⟨cY,?_⟩;simp[-er,-dL,y8,I2,J2,J,K,Ma,h1,h2,h3,q1,z1,z2,z3,z4,z5,kl,jl,k3,j3,cY,φ.Jk,Lh,Jy,yk]
  ·right;have:k=y.pl.length:=by omega
   subst this;simp[J,K,Ma,h1,h2,h3,q1,z1,z2,z3,z4,z5,kl,jl,k3,j3]
 ·obtain⟨⟨h1,h2,h3⟩,q1⟩:=τ;simp[K,S7,h1,h2,h3,q1,du]
theorem f27(c1 aN:Γ)(zQ:aJ c1)(cu:aJ aN)(ps:List ω)(bo:∀x∈ps,x.Ok)(dc:kR ps<1000000000)(m:Mem):
  kf u 27 [dA c1 (wU ps),dA aN ps] m=some (.bool true,m):=by
 refine bz (g:=F') rfl rfl rfl ?_;simp only[ah,aw,l0 cu bo,l0 zQ (aeZ ps bo)];simp only[F',Pc,dA,wU,di];have hlen:=C6 ps;let K:St->Prop:=fun st=>st.e 2= .Ω 2 0 0/\st.q 2=some (0,.cells [.list c1 (ps.map (ω.av∘ω.copy))])/\st.e 3= .Ω 3 0 0/\st.q 3=some (0,.cells [.list aN (ps.map ω.av)])/\st.mem= {ε:=m.ε,η:=[]};refine χ (K) (by simp[K,aQ]) fun s1 ⟨h1,h2,h3,h4,h5⟩=>?_;refine χ (K) (by simp[K,h1,h2,h3,h4,h5]) fun s1 ⟨h1,h2,h3,h4,h5⟩=>?_;refine aZ (K) ?_ fun s2 ⟨h1,h2,h3,h4,h5⟩=>by simp[h5]
 let J:Nat->St->Prop:=fun i st=>K st/\st.e 5= .n i;refine χ (J 0) (by simp[J,K,h1,h2,h3,h4,h5]) fun s4 hI=>?_;refine κ.block (κ.upto (I:=J) ps.length hI (fun i st ν τ=>?_) (fun st τ=>?_))
 ·obtain⟨⟨h1,h2,h3,h4,h5⟩,q1⟩:=τ;have ej:aT .i64 ((i:Int)+1)=(i:Int)+1:=wrap_i64 (by omega) (by omega);have hm:ps[i]∈ps:=cz ν;have Θ:=bo _ hm;have kL:=ω.my hm;simp only[ω.wt]at kL;have Xk:=fun m=>f80 (u:=u) ps[i].body (kp ps[i].body) ps[i].cb (vE _) Θ.2.2.2.1 Θ.2.2.2.2.1 (by omega) m;refine χ (J i) (by simp[J,K,h1,h2,h3,h4,h5,q1,ν]) fun s5 ⟨⟨h1,h2,h3,h4,h5⟩,q1⟩=>?_;refine aZ (J i) ?_ fun s6 ⟨⟨h1,h2,h3,h4,h5⟩,q1⟩=>by simp[J,K,h1,h2,h3,h4,h5,q1,ej]
  refine κ.block ?_;let P:Γ->List δ->Γ->AV:=fun _ _ _=> .dd;let J2:St->Prop:=fun st=>J i st/\(∃v,st.e 6= .Ω 6 v 0/\st.q 6=some (v,.cells [.str ps[i].name,.list ps[i].cp (ps[i].ay.map aC.av),.list (kp ps[i].body) (δ.ψ (gI ps[i].body))]))/\∃v,st.e 7= .Ω 7 v 0/\st.q 7=some (v,.cells [.str ps[i].name,.list ps[i].cp (ps[i].ay.map aC.av),.list ps[i].cb (δ.ψ ps[i].body)]);refine χ (J2) (by simp[J2,J,K,h1,h2,h3,h4,h5,q1,ν,ω.av,ω.copy,b_,mF,cj,dG,AV.fI]) fun s5 ⟨⟨⟨h1,h2,h3,h4,h5⟩,q1⟩,⟨v6,z1,z2⟩,v7,z3,z4⟩=>?_;refine χ (J2) (by simp[J2,J,K,h1,h2,h3,h4,h5,q1,z1,z2,z3,z4,Xk]) fun s5 ⟨⟨⟨h1,h2,h3,h4,h5⟩,q1⟩,⟨v6,z1,z2⟩,v7,z3,z4⟩=>?_;let I2:Nat->St->Prop:=fun k st=>J2 st/\st.e 8= .n k;refine χ (I2 0) (by simp[I2,J2,J,K,h1,h2,h3,h4,h5,q1,z1,z2,z3,z4]) fun s6 hI=>?_;refine κ.block (κ.loop (I:=I2) ps[i].ay.length hI fun k st hk τ=>?_);obtain⟨⟨⟨⟨h1,h2,h3,h4,h5⟩,q1⟩,⟨v6,z1,z2⟩,v7,z3,z4⟩,z5⟩:=τ;rcases bP k ps[i].ay.length with cY|Rp
  ·have yk:aT .i64 ((k:Int)+1)=(k:Int)+1:=wrap_i64 (by omega) (by omega);left;refine⟨cY,?_⟩;simp[-er,-dL,y8,I2,J2,J,K,L6,h1,h2,h3,h4,h5,q1,z1,z2,z3,z4,z5,cY,aC.av,kq,yk]
  ·right;have:k=ps[i].ay.length:=by omega
   subst this;simp[J,K,L6,h1,h2,h3,h4,h5,q1,z1,z2,z3,z4,z5]
 ·obtain⟨⟨h1,h2,h3,h4,h5⟩,q1⟩:=τ;simp[K,SS,h1,h2,h3,h4,h5,q1]
end Go.ab.Tz
