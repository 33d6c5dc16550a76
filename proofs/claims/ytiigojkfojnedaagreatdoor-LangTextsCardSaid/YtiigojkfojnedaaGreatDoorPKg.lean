import Derived.Test.YtiigojkfojnedaaGreatDoorPKa
import Derived.Test.YtiigojkfojnedaaGreatDoorPHc
set_option linter.unusedVariables false
set_option linter.unusedSimpArgs false
set_option maxRecDepth 100000
set_option maxHeartbeats 8000000
open List renaming replicate->rN,drop_eq_getElem_cons->ko,mem_append->eL,eq_of_mem_replicate->ahY,map_cons->ah,map_nil->aw,take_of_length_le->dY,length_drop->kz,getElem_mem->cz,length->mB,getElem?_eq_none->iU,getElem?_append_left->eg,getElem?_append_right->ti,all_map->lv,append_assoc->cr,length_map->dq,mem_cons->dX,getElem?_cons_zero->A1,nil_append->cO,length_append->dB,map_map->di,map_congr_left->dz,eq_nil_of_length_eq_zero->lU
open Nat renaming lt_or_ge->bP,zero_le->oY,le_refl->bQ
open Go.IntKind renaming wrap->aT
open Bool renaming false_eq_true->hS
open Option renaming bind_some->xi
namespace Go.ab.Tz
open Go.ab
variable{u:Nat}
attribute [local simp] exec eG eu fz aF d_ fQ fe bq gN bT gF gS hU hZ mD AV.cells newVar hH rd wr gg single fy bF er dL κ bf RV.get ba dU jy
def yX:List AV:=rN 256 (.bool false)
def LW:List KK:=rN 256 .bool
def O4(z:List AV):AC:=(.seq (.ops [⟨(some 2),.alloc false z,none⟩]) (.seq (.ops [⟨(some 3),.alloc false z,none⟩]) (.seq (.seq (.ops [⟨(some 5),.mv (.t 0),none⟩,⟨(some 6),.qB (.t 5),none⟩]) (.block 0 (.loop L4))) (.seq (.ops [⟨(some 14),.ld true 256 (.t 3),none⟩,⟨none,.st 256 (.t 2) (.t 14),none⟩]) .ret))))
def O2(ks:List KK):AC:=(.seq (.ops [⟨(some 2),.box false 256 (.t 0),none⟩,⟨(some 4),.mv (.c (.bool false)),none⟩]) (.seq (.draw [⟨(some 5),.ld true 256 (.t 2),none⟩,⟨(some 6),.mv (.t 1),none⟩,⟨(some 7),.conv (.int .i32) (.t 6),none⟩,⟨(some 8),.conv .char (.t 7),none⟩,⟨(some 9),.call (.c (.fn (.func 243) [] [])) [(.t 8)],none⟩,⟨(some 10),.eqs false ks (.t 5) (.t 9),none⟩,⟨(some 4),.mv (.t 10),none⟩] [(0,4)] []) .ret))
theorem Wv:O3=O4 yX:=rfl
theorem Wu:O1=O2 LW:=rfl
def oc(f:Nat->Bool):List AV:=(List.range 256).map fun b=> .bool (f b)
theorem Ih(f:Nat->Bool){b:Nat}(h:b<256):((oc f).drop b).take 1=[.bool (f b)]:=by
 have hl:b<(oc f).length:=by simpa[oc]using h
 rw[ko hl];simp[oc]
theorem UP(f:Nat->Bool):(oc f).length=256:=by simp[oc]
def Hj(b:Nat):Bool:=decide (b∈eJ)
def mq(b:Nat):List AV:=fy yX b [.bool true]
theorem agZ:yX.length=256:=by simp[yX]
theorem TD{b:Nat}(h:b<256):(mq b).length=256:=by simp[mq,yX];omega
theorem Qu{b:Nat}(h:b<256):Fx (.agg (mq b)):=by
 have h1:∀v∈mq b,∃x,v= .bool x:=by
  intro v hv;simp only[mq,yX,fy,eL]at hv;rcases hv with(hv|hv)|hv
  ·exact⟨_,ahY (List.mem_of_mem_take hv)⟩
  ·exact⟨_,by simpa using hv⟩
  ·exact⟨_,ahY (List.mem_of_mem_drop hv)⟩
 have h2:=bJ.of id (mq b) fun v hv=>by obtain⟨x,rfl⟩:=h1 v hv;exact⟨rfl,rfl⟩
 rw[List.map_id]at h2;exact .agg h2
theorem f243(b:Nat)(h:b<128)(m:Mem):kf u 243 [.str [b]] m=some (.agg (mq b),m):=by
 refine bz (g:=FU) rfl rfl rfl ?_;simp only[ah,aw,exp,FU,Wv,O4];have hz:=agZ;generalize LO:yX=z at*;let K:St->Prop:=fun st=>st.e 0= .str [b]/\st.e 2= .Ω 2 0 0/\st.q 2=some (0,.cells z)/\st.e 3= .Ω 3 0 0/\st.mem= {ε:=m.ε,η:=[]};refine χ (fun st=>st.e 0= .str [b]/\st.e 2= .Ω 2 0 0/\st.q 2=some (0,.cells z)/\st.q 3=none/\st.mem= {ε:=m.ε,η:=[]}) (by simp[aQ]) fun s1 ⟨h0,h1,h2,h3,h4⟩=>?_;refine χ (fun st=>K st/\st.q 3=some (0,.cells z)) (by simp[K,h0,h1,h2,h3,h4,aQ]) fun s1 ⟨⟨h0,h1,h2,h3,h4⟩,h5⟩=>?_;refine aZ (fun st=>K st/\st.q 3=some (0,.cells (mq b))) ?_ fun s2 ⟨⟨h0,h1,h2,h3,h4⟩,h5⟩=>?_
 ·let I:Nat->St->Prop:=fun i st=>K st/\st.q 3=some (0,.cells (if i=0 then z else mq b))/\∃v,st.e 6= .Ω 6 v 0/\st.q 6=some (v,.iter [b] i);refine χ (I 0) (by simp[I,K,h0,h1,h2,h3,h4,h5]) fun s2 hI=>?_;refine κ.block (κ.ki (I:=I) 1 hI fun i st hi τ=>?_);obtain⟨⟨h0,h1,h2,h3,h4⟩,h5,v,h6,h7⟩:=τ;unfold L4;rcases bP i 1 with ν|cD
  ·have:i=0:=by omega
   subst this;have hd:=P0 (s:=[b]) (i:=0) (by simp) (by simpa using h);simp only[ah,aw,List.getElem_cons_zero]at hd;have hb:(b:Int)<256:=by omega
   have dt:b<256:=by omega
   have nq:b+1<=256:=by omega
   refine κ.done .normal (fun st=>I 1 st) (by simp[I,K,h0,h1,h2,h3,h4,h5,h6,h7,hd,hb,dt,nq,hz,mq,LO]) fun s' h=> .inl ⟨rfl,by omega,h⟩
  ·have:i=1:=by omega
   subst this;refine κ.done (.exit 0) (fun st=>K st/\st.q 3=some (0,.cells (mq b))) (by simp[K,h0,h1,h2,h3,h4,h5,h6,h7]) fun s' h=> .inr ⟨by simp,.inl ⟨rfl,.inl ⟨rfl,h⟩⟩⟩
 ·have hol:(mq b).length=256:=TD (by omega);have ht:(mq b).take 256=mq b:=dY (by omega);simp[h0,h1,h2,h3,h4,h5,hol,hz,ht];exact(Qu (show b<256 by omega)).ax _ _ _
theorem f242(T:List AV)(hT:T.length=256)(r:Bool)(hr:kq LW T (mq 48)=some r)(m:Mem)(hx:bn m.ε.length false T=T):kf u 242 [.agg T,.int .u8 48] m=some (.bool r,m):=by
 have q:=fun m=>f243 (u:=u) 48 (by omega) m;refine bz (g:=FT) rfl rfl rfl ?_;simp only[ah,aw,exp,hx,FT,Wu,O2];have hw:aT .i32 48=48:=by decide
 have he:(Utf8.encode 48).data.toList.map UInt8.toNat=[48]:=by rfl
 have ht:T.take 256=T:=dY (by omega);simp[aQ,hT,q,hr,hw,he,ht,b_,cj,dG]
theorem ad3:∀i,i<10->kq LW (mq (48+i)) (mq 48)=some (decide (i=0)):=by decide
def nM(B:List θ)(s:List Nat)(p q:Nat):List θ:=B++[.cells [.str s],.cells [.n p],.cells [.n q]]
section
variable(B:List θ)(s:List Nat)(p q:Nat)
theorem adI:(nM B s p q).length=B.length+3:=by simp[nM]
theorem wK:(nM B s p q)[B.length]?=some (.cells [.str s]):=by simp[nM]
theorem rp:(nM B s p q)[B.length+1]?=some (.cells [.n p]):=by simp[nM]
theorem CX:(nM B s p q)[B.length+2]?=some (.cells [.n q]):=by simp[nM]
theorem adJ(r:Nat):(nM B s p q).set (B.length+2) (.cells [.n r])=nM B s p r:=by simp[nM]
end
theorem f239(f:Nat->Bool)(B:List θ)(s:List Nat)(hs:dJ s)(p q:Nat)(hpq:p<=q)(hq:q<=s.length)(hl:s.length<4000000000)(T:List Nat):
  aS (C u) (.fn (.func 239) [] [.μ (B.length+2) 0,.μ B.length 0,.μ (B.length+1) 0]) [.agg (oc f)] {ε:=nM B s p q,η:=T}=some (.n ((q+runN f (s.drop q)-p:Nat):Int),{ε:=nM B s p (q+runN f (s.drop q)),η:=T}):=by
 have hle:=yQ f (s.drop q);simp only[kz]at hle;generalize hr:q+runN f (s.drop q)=r at*;have hT:=UP f;refine Sn (m':= {ε:=nM B s p r,η:=T}) (g:=FQ) rfl rfl rfl ?_ rfl;have Ce:∀n,bn n true (oc f)=oc f:=fun n=>by rw[fm];simp[oc,exp]
 have dV:([AV.agg (oc f)]++[AV.μ (B.length+2) 0,.μ B.length 0,.μ (B.length+1) 0]).map (exp (nM B s p q).length true)=[AV.agg (oc f),.μ (B.length+2) 0,.μ B.length 0,.μ (B.length+1) 0]:=by simp[Ce,exp,adI]
 rw[dV];simp only[FQ,O0];let K:Nat->St->Prop:=fun q st=>st.e 1= .μ (B.length+2) 0/\st.e 2= .μ B.length 0/\st.e 3= .μ (B.length+1) 0/\st.e 4= .Ω 4 0 0/\st.q 4=some (0,.cells (oc f))/\st.mem= {ε:=nM B s p q,η:=[]};refine χ (K q) (by simp[K,aQ,hT]) fun s1 hK=>?_;refine aZ (K r) ?_ fun s2 ⟨h1,h2,h3,h4,h5,h6⟩=>?_
 ·let I:Nat->St->Prop:=fun i st=>∃x:Nat,K x st/\q+i=x/\x<=s.length/\x+runN f (s.drop x)=r;have h0:I 0 s1:=⟨q,hK,rfl,hq,hr⟩;refine κ.block (κ.ki (I:=I) s.length h0 fun i st hi τ=>?_);obtain⟨x,⟨h1,h2,h3,h4,h5,h6⟩,hx,R8,Hh⟩:=τ;unfold SM;rcases bP x s.length with ν|cD
  ·have hb:s[x]<256:=hs _ (cz ν);have dt:(s[x]:Int)<256:=by omega
   have nq:s[x]+1<=256:=by omega
   have hg:=Ih f hb;have hw:aT .i64 ((x:Int)+1)=((x+1:Nat):Int):=by rw[wrap_i64 (by omega) (by omega)];omega
   rw[yP ν]at Hh;cases hc:f s[x]with
   |false=>
    rw[hc]at hg
    simp only[hc,hS,if_false]at Hh;have:x=r:=by omega
    subst this;refine κ.done (.exit 0) (fun st=>K x st) (by simp[K,h1,h2,h3,h4,h5,h6,wK,rp,CX,ν,hb,dt,nq,hT,hg]) fun s' h=> .inr ⟨by simp,.inl ⟨rfl,.inl ⟨rfl,h⟩⟩⟩
   |true=>
    rw[hc]at hg
    simp only[hc,if_true]at Hh;have jV:(nM B s p x).set (B.length+2) (.cells [.n ((x:Int)+1)])=nM B s p (x+1):=adJ B s p x (x+1);refine κ.done .normal (fun st=>K (x+1) st) (by simp[K,h1,h2,h3,h4,h5,h6,wK,rp,CX,ν,hb,dt,nq,hT,hg,hw,Mem.put,Mem.ρ,ρ,bh,lo,jV]) fun s' h=> .inl ⟨rfl,by omega,x+1,h,by omega,by omega,by omega⟩
  ·have:x=s.length:=by omega
   subst this;rw[M3]at Hh;have:s.length=r:=by omega
   rw[this]at h6;refine κ.done (.exit 0) (fun st=>K r st) (by simp[K,h1,h2,h3,h4,h5,h6,wK,rp,CX,this]) fun s' h=> .inr ⟨by simp,.inl ⟨rfl,.inl ⟨rfl,h⟩⟩⟩
 ·have hw:aT .i64 ((r:Int)-p)=((r-p:Nat):Int):=by rw[wrap_i64 (by omega) (by omega)];omega
  simp[h1,h2,h3,h4,h5,h6,rp,CX,hw,exp]
def _root_.Go.ab.Tok.a_(t:Tok):AV:= .agg [.n t.at_,.n t.kind,.str t.text,.n t.bB]
theorem Bv{b:Nat}(h:dI b=true):48<=b/\b<=57:=by simpa[dI]using h
theorem f203(s:List Nat)(hs:dJ s)(p:Nat)(hp:p<s.length)(hl:s.length<4000000000)(m:Mem):
  kf u 203 [.str s,.n p] m=some ((dK p (s.drop p)).a_,m):=by
 refine bz (g:=Fw) rfl rfl rfl ?_;have fY:=Dr hp;have hb:s[p]<256:=hs _ (cz hp);simp only[ah,aw,exp,Fw,c203];have MT:∀m,kf u 240 [] m=some (.agg (oc isLet),m):=fun m=>AD (p:=tX Dn) (by rfl) (by rfl);have Da:∀m,kf u 241 [] m=some (.agg (oc dI),m):=fun m=>AD (p:=tX Dp) (by rfl) (by rfl);have Uk:∀m,kf u 244 [] m=some (.agg (oc Hj),m):=fun m=>AD (p:=tX Dq) (by rfl) (by rfl);have rB:=fun f T=>f239 (u:=u) f m.ε s hs p (p+1) (by omega) (by omega) hl T;have hw:aT .i64 ((p:Int)+1)=((p+1:Nat):Int):=by rw[wrap_i64 (by omega) (by omega)];omega
 let K:Nat->St->Prop:=fun q st=>st.e 2= .μ m.ε.length 0/\st.e 3= .μ (m.ε.length+1) 0/\st.e 4= .Ω 4 0 0/\st.q 4=some (0,.cells [.n 0,.n 0,.str [],.n 0])/\st.e 5= .Ω 5 0 0/\st.e 6= .μ (m.ε.length+2) 0/\st.mem= {ε:=nM m.ε s p q,η:=[]};let T:Int->List Nat->Int->St->Prop:=fun k t w st=>st.q 5=some (0,.cells [.n p,.n k,.str t,.n w]);refine χ (fun st=>st.e 2= .μ m.ε.length 0/\st.e 3= .μ (m.ε.length+1) 0/\st.e 4= .Ω 4 0 0/\st.q 4=some (0,.cells [.n 0,.n 0,.str [],.n 0])/\st.q 5=none/\st.mem= {ε:=m.ε++[.cells [.str s],.cells [.n p]],η:=[]}) (by simp[aQ,Mem.push,Mem.ρ,ρ]) fun s1 ⟨h1,h2,h3,h4,h5,h6⟩=>?_;refine χ (fun st=>K (p+1) st/\T 0 [] (-1) st) (by simp[K,T,h1,h2,h3,h4,h5,h6,aQ,cX,hw,Mem.push,Mem.put,Mem.ρ,ρ,bh,lo,b_,mF,cj,dG,AV.gh,AV.beq,nM]) fun s1 ⟨⟨h1,h2,h3,h4,h5,h6,h7⟩,h8⟩=>?_;have Rz:=yQ isLet (s.drop p);have KX:=yQ dI (s.drop p);simp only[kz]at Rz KX;have dt:(s[p]:Int)<256:=by omega
 have nq:s[p]+1<=256:=by omega
 have g1:=Ih isLet hb;have g2:=Ih dI hb;have g3:=Ih Hj hb;have hT:=fun f=>UP f;generalize jX:dK p (s.drop p)=tk at fY;refine χ (fun st=>K (p+1) st/\T 0 [] (-1) st/\st.e 7= .fn (.func 239) [] [.μ (m.ε.length+2) 0,.μ m.ε.length 0,.μ (m.ε.length+1) 0]) (by simp[K,T,h1,h2,h3,h4,h5,h6,h7,h8]) fun s1 ⟨⟨h1,h2,h3,h4,h5,h6,h7⟩,h8,h9⟩=>?_;have sG:isLet s[p]=true->p+1+runN isLet (s.drop (p+1))=p+runN isLet (s.drop p):=fun h=>by rw[yP hp,h];simp;omega
 have Ah:dI s[p]=true->p+1+runN dI (s.drop (p+1))=p+runN dI (s.drop p):=fun h=>by rw[yP hp,h];simp;omega
 have ef:∀n:Nat,p+n-p=n:=fun n=>by omega
 refine aZ (fun st=>K (p+tk.text.length) st/\T tk.kind [] tk.bB st/\tk.at_=p/\tk.text=(s.drop p).take tk.text.length/\p+tk.text.length<=s.length) ?_ fun s2 ⟨⟨h1,h2,h3,h4,h5,h6,h7⟩,h8,h9,aG,c6⟩=>?_
 ·refine χ (fun st=>(K (p+1) st/\T 0 [] (-1) st)/\st.e 7= .fn (.func 239) [] [.μ (m.ε.length+2) 0,.μ m.ε.length 0,.μ (m.ε.length+1) 0]/\st.e 8= .int .u8 s[p]) (by simp[K,T,h1,h2,h3,h4,h5,h6,h7,h8,h9,wK,rp,hp]) fun s1 ⟨⟨⟨h1,h2,h3,h4,h5,h6,h7⟩,h8⟩,h9,aG⟩=>?_;simp only[T]at h8;refine κ.block ?_;refine χ (fun st=>((K (p+1) st/\T 0 [] (-1) st)/\st.e 7= .fn (.func 239) [] [.μ (m.ε.length+2) 0,.μ m.ε.length 0,.μ (m.ε.length+1) 0]/\st.e 8= .int .u8 s[p])/\st.e 21= .bool (isLet s[p])) (by simp[K,T,h1,h2,h3,h4,h5,h6,h7,h8,h9,aG,MT,dt,nq,hT,g1]) fun s1 ⟨⟨⟨⟨h1,h2,h3,h4,h5,h6,h7⟩,h8⟩,h9,aG⟩,c6⟩=>?_;simp only[T]at h8;cases c1:isLet s[p]with
  |true=>
   have sG:=sG c1
   rw[c1]at fY;simp only[if_true]at fY;refine κ.yes (by simp[c6,c1]) ?_;have rB:=rB isLet [];rw[sG,ef]at rB;generalize hr:runN isLet (s.drop p)=r at*;have hlen:((s.drop p).take r).length=r:=by simp;omega
   have jE:aT .i64 ((p:Int)+8)=(p:Int)+8:=wrap_i64 (by omega) (by omega);subst fY;by_cases QP:8<r
   ·have J_:(8:Int)<r:=by omega
    refine κ.done .normal (fun st=>K (p+r) st/\T 1 [] ((p:Int)+8) st) (by simp[K,T,h1,h2,h3,h4,h5,h6,h7,h8,h9,aG,MT,rB,J_,rp,jE]) fun s' h=> .inr ⟨by simp,.inl ⟨rfl,?_⟩⟩;simp only[QP,if_true,hlen];exact⟨h.1,h.2,trivial,trivial,by omega⟩
   ·have J_:¬(8:Int)<r:=by omega
    refine κ.done .normal (fun st=>K (p+r) st/\T 1 [] (-1) st) (by simp[K,T,h1,h2,h3,h4,h5,h6,h7,h8,h9,aG,MT,rB,J_,rp,jE]) fun s' h=> .inr ⟨by simp,.inl ⟨rfl,?_⟩⟩;simp only[QP,if_false,hlen];exact⟨h.1,h.2,trivial,trivial,by omega⟩
  |false=>
   refine κ.no (by simp[c6,c1]) ?_
   rw[c1]at fY;simp only[hS,if_false]at fY;refine χ (fun st=>((K (p+1) st/\T 0 [] (-1) st)/\st.e 7= .fn (.func 239) [] [.μ (m.ε.length+2) 0,.μ m.ε.length 0,.μ (m.ε.length+1) 0]/\st.e 8= .int .u8 s[p])/\st.e 34= .bool (dI s[p])) (by simp[K,T,h1,h2,h3,h4,h5,h6,h7,h8,h9,aG,Da,dt,nq,hT,g2]) fun s1 ⟨⟨⟨⟨h1,h2,h3,h4,h5,h6,h7⟩,h8⟩,h9,aG⟩,c6⟩=>?_;simp only[T]at h8;cases c2:dI s[p]with
   |true=>
    have Ah:=Ah c2
    rw[c2]at fY;simp only[if_true]at fY;refine κ.yes (by simp[c6,c2]) ?_;have rB:=rB dI [];rw[Ah,ef]at rB;generalize hr:runN dI (s.drop p)=r at*;have hlen:((s.drop p).take r).length=r:=by simp;omega
    have hd:=Bv c2;have MV:=fun m=>f243 (u:=u) s[p] (by omega) m;have MU:∀m,kf u 242 [.agg (mq s[p]),.int .u8 48] m=some (.bool (decide (s[p]=48)),m):=fun m=>by
     refine f242 (u:=u) (mq s[p]) (TD hb) _ ?_ m ?_
     ·have:=ad3 (s[p]-48) (by omega);rw[show 48+(s[p]-48)=s[p] by omega]at this;rw[this];congr 1;simp only[decide_eq_decide];omega
     ·have:=(Qu hb).Ey m.ε.length;simpa only[exp,AV.agg.injEq]using this
    have sM:(s.take (p+1)).drop p=[s[p]]:=by rw[Dm (by omega),show p+1-p=1 by omega,ko hp];rfl
    have nB:aT .i64 ((p:Int)+1)=(p:Int)+1:=wrap_i64 (by omega) (by omega);have jE:aT .i64 ((p:Int)+2)=(p:Int)+2:=wrap_i64 (by omega) (by omega);have bR:(p:Int)<=(p:Int)+1:=by omega
    have B5:(0:Int)<=(p:Int)+1:=by omega
    have B6:(p:Int)+1<=s.length:=by omega
    subst fY;have fin:∀st w,K (p+r) st/\T 2 [] w st->w=(if 1<r/\s[p]=48 then(p:Int)+1 else if 2<r then(p:Int)+2 else-1)->K (p+((s.drop p).take r).length) st/\T 2 [] (if 1<r/\s[p]=48 then(p:Int)+1 else if 2<r then(p:Int)+2 else-1) st/\p=p/\(s.drop p).take r=(s.drop p).take ((s.drop p).take r).length/\p+((s.drop p).take r).length<=s.length:=by intro st w h hw;rw[hlen,<-hw];exact⟨h.1,h.2,rfl,rfl,by omega⟩
    by_cases ha:1<r
    ·have B0:(1:Int)<r:=by omega
     by_cases hz:s[p]=48
     ·refine κ.done .normal (fun st=>K (p+r) st/\T 2 [] ((p:Int)+1) st) (by simp[K,T,h1,h2,h3,h4,h5,h6,h7,h8,h9,aG,Da,rB,MU,MV,B0,decide_eq_true hz,wK,rp,nB,bound,sM,bR,B5,B6]) fun s' h=> .inr ⟨by simp,.inl ⟨rfl,fin _ _ h (by simp[ha,hz])⟩⟩
     ·by_cases hy:2<r
      ·have mj:(2:Int)<r:=by omega
       refine κ.done .normal (fun st=>K (p+r) st/\T 2 [] ((p:Int)+2) st) (by simp[K,T,h1,h2,h3,h4,h5,h6,h7,h8,h9,aG,Da,rB,MU,MV,B0,mj,hz,wK,rp,nB,jE,bound,sM,bR,B5,B6]) fun s' h=> .inr ⟨by simp,.inl ⟨rfl,fin _ _ h (by simp[hy,hz])⟩⟩
      ·have mj:¬(2:Int)<r:=by omega
       refine κ.done .normal (fun st=>K (p+r) st/\T 2 [] (-1) st) (by simp[K,T,h1,h2,h3,h4,h5,h6,h7,h8,h9,aG,Da,rB,MU,MV,B0,mj,hz,wK,rp,nB,jE,bound,sM,bR,B5,B6]) fun s' h=> .inr ⟨by simp,.inl ⟨rfl,fin _ _ h (by simp[hy,hz])⟩⟩
    ·have B0:¬(1:Int)<r:=by omega
     have mj:¬(2:Int)<r:=by omega
     have hy:¬2<r:=by omega
     refine κ.done .normal (fun st=>K (p+r) st/\T 2 [] (-1) st) (by simp[K,T,h1,h2,h3,h4,h5,h6,h7,h8,h9,aG,Da,rB,B0,mj]) fun s' h=> .inr ⟨by simp,.inl ⟨rfl,fin _ _ h (by simp[ha,hy])⟩⟩
   |false=>
    refine κ.no (by simp[c6,c2]) ?_
    rw[c2]at fY;simp only[hS,if_false]at fY;have zS:(s.drop p).take 1=[s[p]]:=by rw[ko hp];rfl
    have nB:aT .i64 (s[p]:Int)=(s[p]:Int):=wrap_i64 (by omega) (by omega);by_cases c3:s[p]∈eJ
    ·rw[if_pos c3]at fY;have JV:Hj s[p]=true:=decide_eq_true c3;rw[JV]at g3;subst fY;refine κ.done .normal (fun st=>K (p+1) st/\T s[p] [] (-1) st) (by simp[K,T,h1,h2,h3,h4,h5,h6,h7,h8,h9,aG,Uk,dt,nq,hT,g3,nB]) fun s' h=> .inr ⟨by simp,.inl ⟨rfl,h.1,h.2,rfl,zS.symm,hp⟩⟩
    ·rw[if_neg c3]at fY;have JV:Hj s[p]=false:=decide_eq_false c3;rw[JV]at g3;subst fY;refine κ.done .normal (fun st=>K (p+1) st/\T 0 [] p st) (by simp[K,T,h1,h2,h3,h4,h5,h6,h7,h8,h9,aG,Uk,dt,nq,hT,g3,rp]) fun s' h=> .inr ⟨by simp,.inl ⟨rfl,h.1,h.2,rfl,zS.symm,hp⟩⟩
 ·simp only[T]at h8;have bR:(p:Int)<=(p:Int)+tk.text.length:=by omega
  have B5:(0:Int)<=(p:Int)+tk.text.length:=by omega
  have B6:(p:Int)+tk.text.length<=s.length:=by omega
  have sM:(s.take (p+tk.text.length)).drop p=tk.text:=by rw[Dm (by omega),show p+tk.text.length-p=tk.text.length by omega];exact aG.symm
  have e1:((p:Int)+tk.text.length).toNat=p+tk.text.length:=by omega
  simp[h1,h2,h3,h4,h5,h6,h7,h8,wK,rp,CX,bound,bR,B5,B6,e1,sM];refine⟨⟨_,rfl⟩,?_⟩;rw[Tok.a_,h9];rfl
def rest(s:List Nat)(n:Nat):List Tok:=rG (s.length+1) n (s.drop n)
theorem afw(s:List Nat):rest s 0=bG s:=rfl
theorem M1(s:List Nat)(n:Nat)(hn:n<=s.length):rest s n=if n+bI false (s.drop n)<s.length then
  (if(dK (n+bI false (s.drop n)) (s.drop (n+bI false (s.drop n)))).kind=0 then[dK (n+bI false (s.drop n)) (s.drop (n+bI false (s.drop n)))]
   else dK (n+bI false (s.drop n)) (s.drop (n+bI false (s.drop n)))::rest s (n+bI false (s.drop n)+(dK (n+bI false (s.drop n)) (s.drop (n+bI false (s.drop n)))).text.length))else[]:=by
 have hle:=Ax false (s.drop n);simp only[kz]at hle
 conv=>lhs;rw[rest,rG]
 simp only[kz,List.drop_drop];by_cases h:n+bI false (s.drop n)<s.length
 ·have h1:¬s.length-n<=bI false (s.drop n):=by omega
  rw[if_neg h1,if_pos h];split
  ·rfl
  ·congr 1;cases hr:s.drop (n+bI false (s.drop n))with
   |nil=>have:=congrArg mB hr;simp at this;omega
   |cons b r=>
    have hp:=AS (n+bI false (s.drop n)) b r
    rw[<-hr]at hp;rw[<-hr];refine agt _ _ _ _ ?_ ?_<;>simp only[kz]<;>omega
 ·have h1:s.length-n<=bI false (s.drop n):=by omega
  rw[if_pos h1,if_neg h]
def kZ{σ:Type}(f:σ->Tok->σ×Bool):List Tok->σ->σ
 |[],x=>x
 |t::l,x=>if(f x t).2 then kZ f l (f x t).1 else(f x t).1
theorem f201{σ:Type}{I D:σ->List θ->Prop}{f:σ->Tok->σ×Bool}{N l:Nat}(s:List Nat)(hs:dJ s)(hl:s.length<4000000000)
  (hI:∀x bs,I x bs->l<bs.length)
  {cnt:σ->Nat} (fw:∀x t,cnt (f x t).1<=cnt x+1)
  (hy:∀x bs T t,I x bs->cnt x<s.length->∃o8 T',aS (C u) (.fn (.yield l) [] []) [t.a_] {ε:=bs,η:=T}=some (.bool (f x t).2,{ε:=o8,η:=T'})/\(if(f x t).2 then I (f x t).1 o8 else D (f x t).1 o8)/\∀i∈T',i∈T\/N<=i)
  (x:σ) (bs:List θ) (T:List Nat) (hx:I x bs) (vV:cnt x=0):
  ∃o8 T',aS (C u) (.fn (.func 201) [] [.ref [.str s]]) [.fn (.yield l) [] []] {ε:=bs,η:=T}=some (.aO [],{ε:=o8,η:=T'})/\(I (kZ f (bG s) x) o8\/D (kZ f (bG s) x) o8)/\∀i∈T',i∈T\/N<=i:=by
 generalize hG:kZ f (bG s) x=G;have dy:κ (C u).gl (aS (C u)) BR.code {env:=([AV.fn (.yield l) [] []]++[AV.ref [.str s]]).map (exp bs.length true),loc:=[],mem:= {ε:=bs,η:=[]}} fun r=>
   (∀i,r.1≠ .exit i)/\(I G r.2.mem.ε\/D G r.2.mem.ε)/\∀i∈r.2.mem.η,N<=i:=by
  have pv:=hI _ _ hx;have dV:([AV.fn (.yield l) [] []]++[AV.ref [.str s]]).map (exp bs.length true)=[AV.fn (.yield l) [] [],AV.ref [.str s]]:=by simp[exp,bn,Fn.below,pv]
  rw[dV];simp only[BR,c201];have C_:=fun n hn m=>f202 (u:=u) s hs n hn hl m;have H7:=fun p hp m=>f203 (u:=u) s hs p hp hl m;let K:St->Prop:=fun st=>st.e 0= .fn (.yield l) [] []/\st.e 1= .ref [.str s]/\∀i∈st.mem.η,N<=i;let J:Nat->St->Prop:=fun i st=>K st/\∃n y,I y st.mem.ε/\n<=s.length/\(i<=n+bI false (s.drop n)/\cnt y<=n+bI false (s.drop n))/\kZ f (rest s n) y=G/\st.e 3= .n ((n+bI false (s.drop n):Nat):Int);have q0:∀m,kf u 202 [.str s,.n 0] m=some (.n (bI false s:Nat),m):=fun m=>by have:=C_ 0 (oY _) m;rw[List.drop_zero,Nat.zero_add]at this;exact this
  refine χ (J 0) (by
   simp[J,K,q0]
   exact⟨0,x,hx,oY _,by omega,hG,by simp⟩) fun s1 hJ=>?_
  refine κ.block (κ.ki (I:=J) s.length hJ fun i st hi τ=>?_);obtain⟨⟨h1,h2,h3⟩,n,y,h4,h5,⟨h6,h66⟩,h7,h8⟩:=τ;rw[M1 s n h5]at h7;have hle:=Ax false (s.drop n);simp only[kz]at hle;generalize hp:n+bI false (s.drop n)=p at*;generalize sv:st.mem.ε=bb at h4;generalize lL:st.mem.η=tt at h3;have hm:st.mem= {ε:=bb,η:=tt}:=by rw[<-sv,<-lL]
  unfold SH;rcases bP p s.length with ν|cD
  ·rw[if_pos ν]at h7;have H7:=H7 p ν;have dE:(p:Int)<s.length:=by omega
   have hlen:=Il p (s.drop p);have ji:0<(dK p (s.drop p)).text.length:=by rw[ko ν];exact AS _ _ _
   simp only[kz]at hlen;generalize dK p (s.drop p)=tk at*;obtain⟨Bd,T',e,xK,YG⟩:=hy y bb tt tk h4 (by omega);have fw:=fw y tk;obtain⟨a,k,tx,w⟩:=tk;simp only[Tok.a_]at e H7;dsimp only at h7 hlen ji xK e fw;have Kf:∀i∈T',N<=i:=fun i hi=>(YG i hi).elim (h3 i) id;refine χ (fun st=>st.e 0= .fn (.yield l) [] []/\st.e 1= .ref [.str s]/\st.e 3= .n p/\st.mem= {ε:=bb,η:=tt}) (by simp[h1,h2,h8,hm,dE]) fun s1 ⟨h1,h2,h3,h8⟩=>?_;refine κ.block ?_;refine χ (fun st=>st.e 0= .fn (.yield l) [] []/\st.e 1= .ref [.str s]/\st.e 3= .n p/\st.mem= {ε:=bb,η:=tt}/\st.e 4= .Ω 4 (aQ (bT s1.loc) 4) 0/\st.q 4=some (aQ (bT s1.loc) 4,.cells [.n a,.n k,.str tx,.n w])) (by simp[h1,h2,h3,h8,H7]) fun s2 ⟨h1,h2,h3,h8,h9,aG⟩=>?_;generalize aQ (bT s1.loc) 4=vv at*;refine aZ (fun st=>st.e 0= .fn (.yield l) [] []/\st.e 1= .ref [.str s]/\st.e 3= .n p/\st.mem= {ε:=Bd,η:=T'}/\st.e 4= .Ω 4 vv 0/\st.q 4=some (vv,.cells [.n a,.n k,.str tx,.n w])/\k≠0/\(f y ⟨a,k,tx,w⟩).2=true) ?_ fun s3 ⟨h1,h2,h3,h8,h9,aG,c6,lG⟩=>?_
   ·cases hc:(f y ⟨a,k,tx,w⟩).2 with
    |false=>
     rw[hc]at e
     refine κ.done .ret (fun st=>st.mem= {ε:=Bd,η:=T'}) (by simp[h1,h2,h3,h8,h9,aG,e]) fun s' h=> .inr ⟨by simp,.inr ⟨by simp,.inr ⟨by simp,.inr ⟨by simp,by simp,?_⟩⟩⟩⟩;rw[h];refine⟨?_,Kf⟩;have:(f y ⟨a,k,tx,w⟩).1=G:=by split at h7<;>simpa[kZ,hc]using h7
     rw[hc]at xK;rw[<-this];exact .inr xK
    |true=>
     rw[hc]at e
     by_cases hk:k=0
     ·have dm:((k:Int)==0)=true:=beq_iff_eq.2 (by omega);refine κ.done .ret (fun st=>st.mem= {ε:=Bd,η:=T'}) (by simp[h1,h2,h3,h8,h9,aG,e,dm]) fun s' h=> .inr ⟨by simp,.inr ⟨by simp,.inr ⟨by simp,.inr ⟨by simp,by simp,?_⟩⟩⟩⟩;simp only[hk,if_true,kZ]at h7;rw[h];refine⟨?_,Kf⟩;have:(f y ⟨a,k,tx,w⟩).1=G:=by simpa[hk,hc]using h7
      rw[hc,if_pos rfl]at xK;rw[<-this];exact .inl xK
     ·have dm:((k:Int)==0)=false:=beq_eq_false_iff_ne.2 (by omega);refine κ.done .normal (fun st=>st.e 0= .fn (.yield l) [] []/\st.e 1= .ref [.str s]/\st.e 3= .n p/\st.mem= {ε:=Bd,η:=T'}/\st.e 4= .Ω 4 vv 0/\st.q 4=some (vv,.cells [.n a,.n k,.str tx,.n w])) (by simp[h1,h2,h3,h8,h9,aG,e,dm,hk]) fun s' h=> .inl ⟨rfl,?_⟩;exact⟨h.1,h.2.1,h.2.2.1,h.2.2.2.1,h.2.2.2.2.1,h.2.2.2.2.2,hk,rfl⟩
   ·have hw:aT .i64 ((p:Int)+tx.length)=(p:Int)+tx.length:=wrap_i64 (by omega) (by omega);have C_:=C_ (p+tx.length) (by omega);simp only[Int.natCast_add]at C_;rw[if_neg c6]at h7;refine κ.done .normal (fun st=>st.e 0= .fn (.yield l) [] []/\st.e 1= .ref [.str s]/\st.e 3= .n ((p+tx.length+bI false (s.drop (p+tx.length)):Nat):Int)/\st.mem= {ε:=Bd,η:=T'}) (by simp[h1,h2,h3,h8,h9,aG,hw,C_]) fun s' ⟨h1,h2,h3,h8⟩=> .inr ⟨by simp,?_⟩;refine .inl ⟨rfl,by omega,⟨h1,h2,by rw[h8];exact Kf⟩,p+tx.length,_,by rw[lG,if_pos rfl]at xK;rw[h8];exact xK,by omega,by omega,?_,h3⟩;simpa[kZ,lG]using h7
  ·rw[if_neg (by omega)]at h7;have Cf:¬(p:Int)<s.length:=by omega
   refine κ.done (.exit 0) (fun st=>st.mem= {ε:=bb,η:=tt}) (by simp[h1,h2,h8,hm,Cf]) fun s' h=> .inr ⟨by simp,?_⟩;refine .inl ⟨rfl,by simp,?_⟩;rw[h];refine⟨?_,h3⟩;simp only[kZ]at h7;rw[<-h7];exact .inl h4
 obtain⟨⟨ex,s'⟩,h1,h2,h3,h4⟩:=dy;refine⟨s'.mem.ε,T++s'.mem.η,?_,h3,fun i hi=>(eL.1 hi).imp id (h4 i)⟩;have:=uv (C:=C u) (f:=201) (g:=BR) (args:=[.fn (.yield l) [] []]) (cap:=[.ref [.str s]]) (m:= {ε:=bs,η:=T}) (l:=[]) rfl rfl rfl h1 h2 (by rfl);exact this
theorem f130(s:List Nat)(m:Mem):kf u 130 [.str s] m=some (.fn (.func 201) [] [.ref [.str s]],m):=by refine bz (g:=EZ) rfl rfl rfl ?_;simp[EZ,c130,exp,Mem.push,Mem.ρ,ρ,ax,cA,pc,Fn.below]
theorem oR{α:Type}{l:List α}{i:Nat}{x:α}(h:l[i]?=some x):i<l.length:=by
 rcases bP i l.length with hl|hl
 ·exact hl
 ·rw[iU hl]at h;cases h
theorem Row.push{n:Nat}{bs:List θ}{sz:Nat}{e:TypeId}{c:Γ}{len:Nat}(h:Row n bs sz e c len)(x:List θ):Row n (bs++x) sz e c len:=by
 rcases h with h|⟨t,h1,h2,h3⟩
 ·exact .inl h
 ·refine .inr ⟨t,h1,h2,?_⟩;rw[eg (oR h3)];exact h3
theorem Row.swap{n:Nat}{P P' x:List θ}{sz:Nat}{e:TypeId}{c:Γ}{len:Nat}(h:Row n (P++x) sz e c len)(h1:P.length=P'.length)(h2:P.length<=n):Row n (P'++x) sz e c len:=by
 rcases h with h|⟨t,k1,k2,k3⟩
 ·exact .inl h
 ·refine .inr ⟨t,k1,k2,?_⟩;rw[ti (by omega)]at k3⊢;rw[<-h1];exact k3
theorem Va{C:iT}{l:Nat}{args:List AV}{mem:Mem}{env:List AV}{ps:List Nat}{fH bd:AC}{yU:LS}{M:St->Prop}{Q:AV->Mem->Prop}(hm:mem.ε[l]?=some (.loop env ps fH bd yU))(hl:ps.length=args.length)
  (h1:κ C.gl (aS C) fH {env:=t_ env ps (args.map (exp mem.ε.length false)),loc:=[],mem:=mem} fun r=>r.1= .normal/\r.2.mem.ls l=some .ready/\M r.2)
  (h2:∀s,M s->κ C.gl (aS C) bd {s with mem:=s.mem.iF l .busy} fun r=>r.2.mem.ls l=some .busy/\match r.1 with
   | .normal=>Q (.bool true) (r.2.mem.iF l .ready)
   | .ret=>Q (.bool false) (r.2.mem.iF l (.done none))
   | .exit i=>Q (.bool false) (r.2.mem.iF l (.done (some i)))):∃v m',aS C (.fn (.yield l) [] []) args mem=some (v,m')/\Q v m':=by
 obtain⟨⟨e1,s1⟩,k1,rfl,k3,k4⟩:=h1;obtain⟨⟨e2,s2⟩,k5,k6,k7⟩:=h2 s1 k4;dsimp only at k3 k6 k7;cases e2 with
 |normal=>exact⟨_,_,by apply uw;simp only[body,round,hm,hl,if_true,k1,k3,k5,k6],k7⟩
 |ret=>exact⟨_,_,by apply uw;simp only[body,round,hm,hl,if_true,k1,k3,k5,k6],k7⟩
 |exit i=>exact⟨_,_,by apply uw;simp only[body,round,hm,hl,if_true,k1,k3,k5,k6],k7⟩
theorem BW(l:List AV)(i:Nat):bq (l.map ρ) i=ρ (bq l i):=by
 induction l generalizing i with
 |nil=>simp[bq,ρ]
 |cons a l ih=>cases i with
  |zero=>rfl
  |succ i=>simp only[ah,bq,ih]
def tn:AC:= .ops [⟨(some 5),.alloc true [(.n 0),(.n 0),(.str []),(.n 0)],none⟩,⟨none,.st 4 (.t 5) (.t 7),none⟩]
def tv:AC:= .block 1 (.ops [⟨(some 8),.ld false 1 (.t 2),none⟩,⟨(some 9),.ld true 4 (.t 5),none⟩,⟨(some 10),.bV true 4 [(.t 9)],none⟩,⟨(some 11),.app true 4 40 194 (.t 8) (.t 10),none⟩,⟨none,.st 1 (.t 2) (.t 11),none⟩])
def aM(B:List θ)(env:List AV)(c:Γ)(l:List Tok)(st:LS):List θ:=B++[.cells [.list c (l.map Tok.a_)],.loop env [7] tn tv st]
theorem uq(B:List θ)(env:List AV)(c:Γ)(l:List Tok)(st:LS):(aM B env c l st).length=B.length+2:=by simp[aM]
theorem Tok.Ql(n:Nat)(k:Bool)(t:Tok):exp n k t.a_=t.a_:=by simp[Tok.a_,exp,bn]
theorem Tok.Qw(t:Tok):Fx t.a_:=⟨rfl,rfl⟩
theorem aeY(l:List Tok):(l.map Tok.a_).all (shaped true 4)=true:=by simp[lv,Tok.a_,shaped,Function.comp]
theorem agT(B:List θ)(env:List AV)(h2:bq env 2= .μ B.length 0)(c:Γ)(l:List Tok)(ext:List θ)(hr:Row (B.length+2) (aM B env c l .ready++ext) 4 194 c l.length)(hl:l.length<1000000000)(t:Tok)(T:List Nat):
  ∃c' ext' T',aS (C u) (.fn (.yield (B.length+1)) [] []) [t.a_] {ε:=aM B env c l .ready++ext,η:=T}=some (.bool true,{ε:=aM B env c' (l++[t]) .ready++ext',η:=T'})∧
   Row (B.length+2) (aM B env c' (l++[t]) .ready++ext') 4 194 c' (l.length+1)/\∀i∈T',i∈T\/B.length<=i:=by
 have hy:=Va (C:=C u) (l:=B.length+1) (args:=[t.a_]) (mem:= {ε:=aM B env c l .ready++ext,η:=T}) (env:=env) (ps:=[7]) (fH:=tn) (bd:=tv) (yU:= .ready)
  (M:=fun s=>s.e 2= .μ B.length 0/\s.e 5= .μ (B.length+2+ext.length) 0/\s.mem= {ε:=aM B env c l .ready++(ext++[.cells [.n t.at_,.n t.kind,.str t.text,.n t.bB]]),η:=T})
  (Q:=fun v m=>v= .bool true/\∃c' ext' T',m= {ε:=aM B env c' (l++[t]) .ready++ext',η:=T'}/\Row (B.length+2) (aM B env c' (l++[t]) .ready++ext') 4 194 c' (l.length+1)/\∀i∈T',i∈T\/B.length<=i)
  (by simp[aM]) rfl (by
   have hg:(aM B env c l .ready++ext)[B.length+1]?=some (.loop env [7] tn tv .ready):=by simp[aM]
   have hX:(aM B env c l .ready++ext).length=B.length+2+ext.length:=by simp[uq]
   rw[<-cr];generalize aM B env c l .ready++ext=X at*;have g1:∀z,(X++[z])[B.length+2+ext.length]?=some z:=fun z=>by rw[<-hX];simp
   have g2:∀z w,(X++[z]).set (B.length+2+ext.length) w=X++[w]:=fun z w=>by rw[<-hX];simp
   have g3:∀z,(X++[z])[B.length+1]?=some (.loop env [7] tn tv .ready):=fun z=>by rw[eg (oR hg)];exact hg
   simp[tn,t_,Tok.a_,exp,bn,h2,hX,Mem.push,g1,g2,g3,Mem.put,Mem.ρ,ρ,bh,lo,Mem.ls]) ?_
 ·obtain⟨v,m',e,rfl,c',ext',T',rfl,k1,k2⟩:=hy;exact⟨c',ext',T',e,k1,k2⟩
 ·intro s ⟨k1,k2,k3⟩;have jV:Mem.iF {ε:=aM B env c l .ready++(ext++[.cells [.n t.at_,.n t.kind,.str t.text,.n t.bB]]),η:=T} (B.length+1) .busy= {ε:=aM B env c l .busy++(ext++[.cells [.n t.at_,.n t.kind,.str t.text,.n t.bB]]),η:=T}:=by simp[Mem.iF,aM]
  have fZ:Row (aM B env c l .busy).length (aM B env c l .busy++(ext++[.cells [.n t.at_,.n t.kind,.str t.text,.n t.bB]])) 4 194 c (l.map Tok.a_).length:=by rw[uq,<-cr,dq];exact Row.push (Row.swap hr (by simp[uq]) (by simp[uq])) _
  obtain⟨c',ext',eN,dn,-⟩:=oT (bytes:=40) fZ (aeY l) (show shaped true 4 t.a_=true by rfl) (show ρ t.a_=t.a_ by rfl) (by omega) (by simp;omega) (by simp;omega);rw[uq,dq]at dn;simp only[k3,jV];have g1:∀x,(aM B env c l .busy++x)[B.length]?=some (.cells [.list c (l.map Tok.a_)]):=fun x=>by simp[aM]
  have g2:(aM B env c l .busy++(ext++[.cells [.n t.at_,.n t.kind,.str t.text,.n t.bB]]))[B.length+2+ext.length]?=some (.cells [.n t.at_,.n t.kind,.str t.text,.n t.bB]):=by
   have:B.length+2+ext.length=(aM B env c l .busy++ext).length:=by simp[uq]
   rw[this,<-cr];simp
  have g3:∀x,(aM B env c l .busy++x).set B.length (.cells [.list c' (l.map Tok.a_++[t.a_])])=aM B env c' (l++[t]) .busy++x:=fun x=>by simp[aM]
  have g4:∀x st,Mem.iF {ε:=aM B env c' (l++[t]) .busy++x,η:=st} (B.length+1) .ready= {ε:=aM B env c' (l++[t]) .ready++x,η:=st}:=fun x st=>by simp[Mem.iF,aM]
  have g5:∀x st,Mem.ls {ε:=aM B env c' (l++[t]) .busy++x,η:=st} (B.length+1)=some .busy:=fun x st=>by simp[Mem.ls,aM]
  have g6:cL (l.map Tok.a_++[t.a_])=l.map Tok.a_++[t.a_]:=by simp[fC,Function.comp,Tok.a_,ρ,cL]
  have dv:shaped true 4 (.agg [.n t.at_,.n t.kind,.str t.text,.n t.bB])=true:=rfl;simp only[Tok.a_]at eN g3 g6;refine κ.done .normal (fun s=>∃T',s.mem= {ε:=aM B env c' (l++[t]) .busy++ext',η:=T'}/\∀i∈T',i∈T\/B.length<=i) (by
   simp[tv,k1,k2,g1,g2,dv,Mem.ρ,ρ,cL,Tok.a_,eN,Mem.put]
   simp only[g6,g3];refine⟨_,⟨trivial,rfl⟩,fun i hi=>?_⟩;split at hi
   ·exact .inl hi
   ·exact(dX.1 hi).elim (fun h=> .inr (by omega)) .inl) fun s' h=>?_
  obtain⟨T',h1,h2⟩:=h;refine⟨by rw[h1];exact g5 _ _,by trivial,c',ext',T',by rw[h1,g4],Row.swap dn (by simp[uq]) (by simp[uq]),h2⟩
theorem Yj{σ:Type}(g:σ->Tok->σ)(l:List Tok)(x:σ):kZ (fun x t=>(g x t,true)) l x=l.foldl g x:=by
 induction l generalizing x with
 |nil=>rfl
 |cons a l ih=>simp[kZ,ih]
theorem XW(l x:List Tok):l.foldl (fun l t=>l++[t]) x=x++l:=by
 induction l generalizing x with
 |nil=>simp
 |cons a l ih=>simp[ih]
theorem Im(s:List Nat):(bG s).length<=s.length:=by
 have:∀k n (l:List Nat),(rG k n l).length<=l.length:=by
  intro k;induction k with
  |zero=>intro n l;simp[rG]
  |succ k ih=>
   intro n l
   simp only[rG];split
   ·simp
   ·rename_i h;split
    ·simp;omega
    ·have:=ih (n+bI false l+(dK (n+bI false l) (l.drop (bI false l))).text.length) ((l.drop (bI false l)).drop (dK (n+bI false l) (l.drop (bI false l))).text.length);cases hr:l.drop (bI false l)with
     |nil=>have:=congrArg mB hr;simp at this;omega
     |cons b r=>
      have hp:=AS (n+bI false l) b r
      rw[hr]at this;simp only[List.length_cons,kz]at this⊢;have:=congrArg mB hr;simp at this;omega
 exact this _ _ _
theorem Xw(c:Γ)(n:Nat):(c.exp n true).exp n true=c.exp n true:=by
 cases c with
 |own t=>by_cases h:t<n<;>simp[Γ.exp,h]
 |_=>rfl
theorem agb(X:List θ)(L:List AV)(hL:bn (X.length+1) true L=L)(T:List Nat):∀c,(∀i∈T,X.length<=i)→
  lT (X.length+1) T (X++[.cells [.list c L]])=X++[.cells [.list (if X.length∈T then c.exp (X.length+1) true else c) L]]:=by
 induction T with
 |nil=>intro c _;simp[lT]
 |cons i T ih=>
  intro c h
  simp only[lT];by_cases hi:i=X.length
  ·subst hi;simp only[ti (bQ _),Nat.sub_self,A1,θ.AH,ah,aw,exp,hL,List.set_append_right _ _ (bQ _),List.set_cons_zero];rw[ih _ fun j hj=>h j (by simp[hj])];by_cases hm:X.length∈T<;>simp[hm,Xw]
  ·have h1:(X++[θ.cells [.list c L]])[i]?=none:=iU (by have:=h i (by simp);simp;omega);rw[h1];rw[ih _ fun j hj=>h j (by simp[hj])];simp[Ne.symm hi]
theorem IW(X:List θ)(L:List AV)(hL:bn (X.length+1) true L=L)(fB:bh X.length L=true)(T:List Nat)(c:Γ)(hT:∀i∈T,X.length<=i)(bs Y:List θ)(h1:Y.length=X.length+1):
  ∃c2,Mem.back {ε:=Y,η:=[]} {ε:=X++[.cells [.list c L]]++bs,η:=T}= {ε:=X++[.cells [.list c2 L]],η:=[]}/\c2.exp 0 false=c.exp 0 false:=by
 refine⟨if X.length∈T then c.exp (X.length+1) true else c,?_,by split<;>simp[JK]⟩;have h2:(X++[θ.cells [.list c L]]++bs).take (X.length+1)=X++[θ.cells [.list c L]]:=by rw[List.take_append_of_le_length (by simp)];exact dY (by simp)
 simp only[Mem.back,h1,h2,agb X L hL T c hT,cO,Mem.mk.injEq,true_and];rw[List.filter_eq_nil_iff];intro i hi;by_cases he:i=X.length
 ·subst he;simp only[ti (bQ _),Nat.sub_self,A1,hi,if_true,θ.clean,bh,lo,fB];cases c with
  |own t=>
   by_cases ht:t<X.length+1
   ·simp[Γ.exp,ht,Γ.lo];omega
   ·simp[Γ.exp,ht,Γ.lo]
  |_=>simp[Γ.exp,Γ.lo]
 ·have h1:∀w:θ,(X++[w])[i]?=none:=fun w=>iU (by have:=hT i hi;simp;omega);simp[h1]
theorem f225(s:List Nat)(hs:dJ s)(hl:s.length<1000000000)(m:Mem):kf u 225 [.list .nil [],.fn (.func 201) [] [.ref [.str s]]] m=some (.list (if bG s=[]then .nil else .any) ((bG s).map Tok.a_),m):=by
 have Uh:=fun(env:List AV) (h2:bq env 2= .μ m.ε.length 0)=>f201 (u:=u) (σ:=List Tok) (I:=fun l bs=>∃c ext,bs=aM m.ε env c l .ready++ext/\Row (m.ε.length+2) bs 4 194 c l.length/\(l=[]->c= .nil)) (D:=fun _ _=>False) (f:=fun l t=>(l++[t],true)) (N:=m.ε.length) (l:=m.ε.length+1)
  s hs (by omega) (fun l bs ⟨c,ext,h,_⟩=>by rw[h,dB,uq];omega) (cnt:=mB) (fun l t=>by simp)
  (fun l bs T t ⟨c,ext,h,hr,hn⟩ hc=>by
   subst h
   obtain⟨c',ext',T',k1,k2,k3⟩:=agT (u:=u) m.ε env h2 c l ext hr (by omega) t T;exact⟨_,T',k1,by rw[if_pos rfl];exact⟨c',ext',rfl,by simpa using k2,fun h=>by simp at h⟩,k3⟩) [] (aM m.ε env .nil [] .ready) [] ⟨.nil,[],by simp,Row.nil,fun _=>rfl⟩ rfl
 rw[Yj,XW,cO]at Uh;refine bz (g:=FG) rfl rfl rfl ?_;have dV:[AV.list .nil [],AV.fn (.func 201) [] [.ref [.str s]]].map (exp m.ε.length false)=[AV.list .nil [],AV.fn (.func 201) [] [.ref [.str s]]]:=by simp[exp,bn,Fn.below,Γ.exp]
 rw[dV];simp only[FG,OT];refine χ (fun st=>st.e 1= .fn (.func 201) [] [.ref [.str s]]/\st.e 2= .μ m.ε.length 0/\st.mem= {ε:=m.ε++[.cells [.list .nil []]],η:=[]}) (by simp[Mem.push,Mem.ρ,ρ,cL]) fun s1 ⟨h1,h2,h3⟩=>?_;have xQ:∀n k,bn n k ((bG s).map Tok.a_)=(bG s).map Tok.a_:=fun n k=>by rw[fm,di];exact dz fun t _=>Tok.Ql n k t
 refine aZ (fun st=>st.e 2= .μ m.ε.length 0/\∃c,st.mem= {ε:=m.ε++[.cells [.list c ((bG s).map Tok.a_)]],η:=[]}/\c.exp 0 false=if bG s=[]then .nil else .any) ?_ fun s2 ⟨h1,c,h2,h3⟩=>?_
 ·refine χ (fun st=>st.e 6= .fn (.func 201) [] [.ref [.str s]]/\st.e 2= .μ m.ε.length 0/\st.mem= {ε:=m.ε++[.cells [.list .nil []]],η:=[]}) (by simp[h1,h2,h3]) fun s1 ⟨h1,h2,h3⟩=>?_;refine κ.block ?_;obtain⟨o8,T',e,⟨c,ext,rfl,hr,hn⟩|⟨⟨⟩⟩,hT⟩:=Uh (s1.env.map ρ) (by rw[BW];exact congrArg ρ h2);have dM:∀M:Mem,M.ρ=ρ:=fun _=>rfl;have e0:aM m.ε (s1.env.map ρ) .nil [] .ready=m.ε++[.cells [.list .nil []]]++[.loop (s1.env.map ρ) [7] tn tv .ready]:=by simp[aM]
  rw[e0]at e;have G1:(m.ε++[θ.cells [.list .nil []]]).length=m.ε.length+1:=by simp
  have wj:(aM m.ε (s1.env.map ρ) c (bG s) .ready++ext)[m.ε.length+1]?=some (.loop (s1.env.map ρ) [7] tn tv .ready):=by simp[aM]
  obtain⟨c2,hb,GQ⟩:=IW m.ε ((bG s).map Tok.a_) (xQ _ _) (by simp[mS,lv,Function.comp,Tok.a_,lo,bh]) T' c (fun i hi=>(hT i hi).elim (fun h=>by cases h) id) (.loop (s1.env.map ρ) [7] tn tv .ready::ext) (m.ε++[.cells [.list .nil []]]) (by simp);have e1:aM m.ε (s1.env.map ρ) c (bG s) .ready++ext=m.ε++[.cells [.list c ((bG s).map Tok.a_)]]++(.loop (s1.env.map ρ) [7] tn tv .ready::ext):=by simp[aM]
  rw[<-e1]at hb;refine⟨(.normal,{s1 with mem:= {ε:=m.ε++[.cells [.list c2 ((bG s).map Tok.a_)]],η:=[]}}),?_,?_⟩
  ·simp only[exec,d_,h1,AV.yu,xi,h3,G1,dM];rw[<-tn,<-tv,e];simp only[wj,hb]
  ·refine .inr ⟨by simp,.inl ⟨rfl,h2,c2,rfl,?_⟩⟩;rw[GQ];by_cases h0:bG s=[]
   ·rw[hn h0,if_pos h0];rfl
   ·rw[if_neg h0];rcases hr with⟨_,hc⟩|⟨t,rfl,_,_⟩
    ·exact absurd (lU hc) h0
    ·rfl
 ·simp[h1,h2];have:=(Dv.list c (bJ.of Tok.a_ (bG s) fun t _=>Tok.Qw t)).ax (m.ε++[.cells [.list c ((bG s).map Tok.a_)]]) m.ε.length 8;rw[h3]at this;exact this
theorem f187(s:List Nat)(hs:dJ s)(hl:s.length<1000000000)(m:Mem):kf u 187 [.fn (.func 201) [] [.ref [.str s]]] m=some (.list (if bG s=[]then .nil else .any) ((bG s).map Tok.a_),m):=by have q:=fun m=>f225 (u:=u) s hs hl m;refine bz (g:=Fi) rfl rfl rfl ?_;simp[Fi,OC,exp,bn,Fn.below,q];have h:=(Dv.list (if bG s=[]then .nil else .any) (bJ.of Tok.a_ (bG s) fun t _=>Tok.Qw t)).ax m.ε m.ε.length 8;rw[fu (by split<;>simp[aJ])]at h;exact h
def _root_.Go.ab.Tok.cC(t:Tok):AV:= .agg [.n t.at_,.n t.kind,.str t.text]
theorem Tok.Qv(t:Tok):Fx t.cC:=⟨rfl,rfl⟩
def qL:AC:= .ops [⟨(some 6),.alloc true [(.n 0),(.n 0),(.str []),(.n 0)],none⟩,⟨none,.st 4 (.t 6) (.t 12),none⟩]
def pN:AC:= .block 1 (.seq (.seq (.ops [⟨(some 13),.fa 3 (.t 6),none⟩,⟨(some 14),.ld false 1 (.t 13),none⟩,⟨(some 15),.bin .geq (.t 14) (.c (.n 0)),none⟩]) (.cond (.t 15) (.seq (.draw [⟨(some 16),.fa 3 (.t 6),none⟩,⟨(some 17),.ld false 1 (.t 16),none⟩,⟨none,.st 1 (.t 2) (.c (.list .nil [])),none⟩,⟨none,.st 1 (.t 3) (.t 17),none⟩,⟨none,.st 1 (.t 4) (.c (.n 4)),none⟩] [(1,2)] []) .ret) .skip)) (.ops [⟨(some 18),.ld false 1 (.t 5),none⟩,⟨(some 19),.fa 0 (.t 6),none⟩,⟨(some 20),.ld true 3 (.t 19),none⟩,⟨(some 21),.bV true 3 [(.t 20)],none⟩,⟨(some 22),.app true 3 32 93 (.t 18) (.t 21),none⟩,⟨none,.st 1 (.t 5) (.t 22),none⟩]))
def tM(B:List θ)(w e:Int)(env:List AV)(c:Γ)(l:List Tok)(st:LS):List θ:=B++[.cells [.list .nil []],.cells [.n w],.cells [.n e],.cells [.list c (l.map Tok.cC)],.loop env [12] qL pN st]
theorem vi(B:List θ)(w e:Int)(env:List AV)(c:Γ)(l:List Tok)(st:LS):(tM B w e env c l st).length=B.length+5:=by simp[tM]
theorem S9(l:List Tok):(l.map Tok.cC).all (shaped true 3)=true:=by simp[lv,Tok.cC,shaped,Function.comp]
theorem y55(B:List θ)(env:List AV)(e2:bq env 2= .μ B.length 0)(e3:bq env 3= .μ (B.length+1) 0)(e4:bq env 4= .μ (B.length+2) 0)(e5:bq env 5= .μ (B.length+3) 0)(c:Γ)(l:List Tok)(ext:List θ)
  (hr:Row (B.length+5) (tM B 0 0 env c l .ready++ext) 3 93 c l.length) (hl:l.length<1000000000) (t:Tok) (T:List Nat):
  ∃c' ext' T',aS (C u) (.fn (.yield (B.length+4)) [] []) [t.a_] {ε:=tM B 0 0 env c l .ready++ext,η:=T}=
   some (.bool (decide (t.bB<0)),{ε:=(if t.bB<0 then tM B 0 0 env c' (l++[t]) .ready else tM B t.bB 4 env c' l (.done none))++ext',η:=T'})∧
   (t.bB<0->Row (B.length+5) (tM B 0 0 env c' (l++[t]) .ready++ext') 3 93 c' (l.length+1))/\∀i∈T',i∈T\/B.length+3<=i:=by
 have hy:=Va (C:=C u) (l:=B.length+4) (args:=[t.a_]) (mem:= {ε:=tM B 0 0 env c l .ready++ext,η:=T}) (env:=env) (ps:=[12]) (fH:=qL) (bd:=pN) (yU:= .ready)
  (M:=fun s=>s.e 2= .μ B.length 0/\s.e 3= .μ (B.length+1) 0/\s.e 4= .μ (B.length+2) 0/\s.e 5= .μ (B.length+3) 0/\s.e 6= .μ (B.length+5+ext.length) 0/\s.mem= {ε:=tM B 0 0 env c l .ready++(ext++[.cells [.n t.at_,.n t.kind,.str t.text,.n t.bB]]),η:=T})
  (Q:=fun v m=>v= .bool (decide (t.bB<0))/\∃c' ext' T',m= {ε:=(if t.bB<0 then tM B 0 0 env c' (l++[t]) .ready else tM B t.bB 4 env c' l (.done none))++ext',η:=T'}/\(t.bB<0->Row (B.length+5) (tM B 0 0 env c' (l++[t]) .ready++ext') 3 93 c' (l.length+1))/\∀i∈T',i∈T\/B.length+3<=i)
  (by simp[tM]) rfl (by
   have hg:(tM B 0 0 env c l .ready++ext)[B.length+4]?=some (.loop env [12] qL pN .ready):=by simp[tM]
   have hX:(tM B 0 0 env c l .ready++ext).length=B.length+5+ext.length:=by simp[vi]
   rw[<-cr];generalize tM B 0 0 env c l .ready++ext=X at*;have g1:∀z,(X++[z])[B.length+5+ext.length]?=some z:=fun z=>by rw[<-hX];simp
   have g2:∀z w,(X++[z]).set (B.length+5+ext.length) w=X++[w]:=fun z w=>by rw[<-hX];simp
   have g3:∀z,(X++[z])[B.length+4]?=some (.loop env [12] qL pN .ready):=fun z=>by rw[eg (oR hg)];exact hg
   simp[qL,t_,Tok.a_,exp,bn,e2,e3,e4,e5,hX,Mem.push,g1,g2,g3,Mem.put,Mem.ρ,ρ,bh,lo,Mem.ls]) ?_
 ·obtain⟨v,m',e,rfl,c',ext',T',rfl,k1,k2⟩:=hy;exact⟨c',ext',T',e,k1,k2⟩
 ·intro s ⟨k2,k3,k4,k5,k6,k7⟩;have jV:Mem.iF {ε:=tM B 0 0 env c l .ready++(ext++[.cells [.n t.at_,.n t.kind,.str t.text,.n t.bB]]),η:=T} (B.length+4) .busy= {ε:=tM B 0 0 env c l .busy++(ext++[.cells [.n t.at_,.n t.kind,.str t.text,.n t.bB]]),η:=T}:=by simp[Mem.iF,tM]
  have fZ:Row (tM B 0 0 env c l .busy).length (tM B 0 0 env c l .busy++(ext++[.cells [.n t.at_,.n t.kind,.str t.text,.n t.bB]])) 3 93 c (l.map Tok.cC).length:=by rw[vi,<-cr,dq];exact Row.push (Row.swap hr (by simp[vi]) (by simp[vi])) _
  obtain⟨c',ext',eN,dn,-⟩:=oT (bytes:=32) fZ (S9 l) (show shaped true 3 t.cC=true by rfl) (show ρ t.cC=t.cC by rfl) (by omega) (by simp;omega) (by simp;omega);rw[vi,dq]at dn;simp only[k7,jV];have g1:∀x,(tM B 0 0 env c l .busy++x)[B.length+3]?=some (.cells [.list c (l.map Tok.cC)]):=fun x=>by simp[tM]
  have g2:(tM B 0 0 env c l .busy++(ext++[.cells [.n t.at_,.n t.kind,.str t.text,.n t.bB]]))[B.length+5+ext.length]?=some (.cells [.n t.at_,.n t.kind,.str t.text,.n t.bB]):=by
   have:B.length+5+ext.length=(tM B 0 0 env c l .busy++ext).length:=by simp[vi]
   rw[this,<-cr];simp
  by_cases hw:t.bB<0
  ·have iz:¬0<=t.bB:=by omega
   have g3:∀x,(tM B 0 0 env c l .busy++x).set (B.length+3) (.cells [.list c' (l.map Tok.cC++[t.cC])])=tM B 0 0 env c' (l++[t]) .busy++x:=fun x=>by simp[tM]
   have g4:∀x st,Mem.iF {ε:=tM B 0 0 env c' (l++[t]) .busy++x,η:=st} (B.length+4) .ready= {ε:=tM B 0 0 env c' (l++[t]) .ready++x,η:=st}:=fun x st=>by simp[Mem.iF,tM]
   have g5:∀x st,Mem.ls {ε:=tM B 0 0 env c' (l++[t]) .busy++x,η:=st} (B.length+4)=some .busy:=fun x st=>by simp[Mem.ls,tM]
   have g6:cL (l.map Tok.cC++[t.cC])=l.map Tok.cC++[t.cC]:=by simp[fC,Function.comp,Tok.cC,ρ,cL]
   have dv:shaped true 3 (.agg [.n t.at_,.n t.kind,.str t.text])=true:=rfl;simp only[Tok.cC]at eN g3 g6;refine κ.done .normal (fun s=>∃T',s.mem= {ε:=tM B 0 0 env c' (l++[t]) .busy++ext',η:=T'}/\∀i∈T',i∈T\/B.length+3<=i) (by
    simp[pN,k2,k3,k4,k5,k6,g1,g2,dv,iz,Mem.ρ,ρ,cL,Tok.cC,eN,Mem.put]
    simp only[g6,g3];refine⟨_,⟨trivial,rfl⟩,fun i hi=>?_⟩;split at hi
    ·exact .inl hi
    ·exact(dX.1 hi).elim (fun h=> .inr (by omega)) .inl) fun s' h=>?_
   obtain⟨T',h1,h2⟩:=h;refine⟨by rw[h1];exact g5 _ _,by simp[hw],c',ext',T',by rw[h1,g4,if_pos hw],fun _=>Row.swap dn (by simp[vi]) (by simp[vi]),h2⟩
  ·have iz:0<=t.bB:=by omega
   have a0:∀x,(tM B 0 0 env c l .busy++x)[B.length]?=some (.cells [.list .nil []]):=fun x=>by simp[tM]
   have a1:∀x,(tM B 0 0 env c l .busy++x)[B.length+1]?=some (.cells [.n 0]):=fun x=>by simp[tM]
   have a2:∀w x,(tM B w 0 env c l .busy++x)[B.length+2]?=some (.cells [.n 0]):=fun w x=>by simp[tM]
   have b0:∀x,(tM B 0 0 env c l .busy++x).set B.length (.cells [.list .nil []])=tM B 0 0 env c l .busy++x:=fun x=>by simp[tM]
   have b1:∀w x,(tM B 0 0 env c l .busy++x).set (B.length+1) (.cells [.n w])=tM B w 0 env c l .busy++x:=fun w x=>by simp[tM]
   have b2:∀w e x,(tM B w 0 env c l .busy++x).set (B.length+2) (.cells [.n e])=tM B w e env c l .busy++x:=fun w e x=>by simp[tM]
   have g4:∀x st,Mem.iF {ε:=tM B t.bB 4 env c l .busy++x,η:=st} (B.length+4) (.done none)= {ε:=tM B t.bB 4 env c l (.done none)++x,η:=st}:=fun x st=>by simp[Mem.iF,tM]
   have g5:∀x st,Mem.ls {ε:=tM B t.bB 4 env c l .busy++x,η:=st} (B.length+4)=some .busy:=fun x st=>by simp[Mem.ls,tM]
   refine κ.done .ret (fun s=>s.mem= {ε:=tM B t.bB 4 env c l .busy++(ext++[.cells [.n t.at_,.n t.kind,.str t.text,.n t.bB]]),η:=T}) (by simp[pN,k2,k3,k4,k5,k6,a0,a1,a2,b0,b1,b2,g2,iz,Mem.ρ,ρ,cL,Mem.put,bh,lo,Γ.lo,b_,cj,dG,AV.gh,AV.beq]) fun s' h=>?_;exact⟨by rw[h];exact g5 _ _,by simp[hw],c,_,T,by rw[h,g4,if_neg hw],fun h=>absurd h hw,fun i hi=> .inl hi⟩
def uc(s:List Nat)(av:Tok->AV):AV:=
 if 65536<s.length then .aO [.list .nil [],.n 0,.n 11]else match pR (bG s)with
  |some w=> .aO [.list .nil [],.int .i64 w,.int .i64 4]
  |none=> .aO [.list (if bG s=[]then .nil else .any) ((bG s).map av),.int .i64 0,.int .i64 0]
def qE(x:List Tok×Option Int)(t:Tok):(List Tok×Option Int)×Bool:=if t.bB<0 then((x.1++[t],none),true)else((x.1,some t.bB),false)
theorem JZ(l:List Tok):∀x,kZ qE l (x,none)=match pR l with
  |some w=>((kZ qE l (x,none)).1,some w)
  |none=>(x++l,none):=by
 induction l with
 |nil=>intro x;simp[kZ,pR]
 |cons t l ih=>
  intro x
  by_cases h:t.bB<0
  ·have h':¬0<=t.bB:=by omega
   simp only[kZ,qE,pR,h,h',if_true,if_false];rw[ih];cases pR l<;>simp
  ·have h':0<=t.bB:=by omega
   simp[kZ,qE,pR,h,h']
theorem f55(s:List Nat)(hs:dJ s)(hl:s.length<1000000000)(m:Mem):kf u 55 [.str s] m=some (uc s Tok.cC,m):=by
 refine D7 (g:=Gx) rfl rfl rfl ?_;have dM:∀M:Mem,M.ρ=ρ:=fun _=>rfl;simp only[ah,aw,exp,Gx,Pw];let K:St->Prop:=fun st=>st.e 0= .str s/\st.e 2= .μ m.ε.length 0/\st.e 3= .μ (m.ε.length+1) 0/\st.e 4= .μ (m.ε.length+2) 0;let X:Int->Int->List θ:=fun w e=>m.ε++[.cells [.list .nil []],.cells [.n w],.cells [.n e]];have hX:∀w e,(X w e).length=m.ε.length+3:=fun w e=>by simp[X]
 refine χ (fun st=>K st/\st.mem= {ε:=X 0 0,η:=[]}) (by simp[K,X,Mem.push,Mem.ρ,ρ,cL]) fun s1 ⟨⟨h1,h2,h3,h4⟩,h5⟩=>?_;by_cases ma:65536<s.length
 ·have oJ:(65536:Int)<s.length:=by omega
  have a0:(X 0 0)[m.ε.length]?=some (.cells [.list .nil []]):=by simp[X]
  have a1:(X 0 0)[m.ε.length+1]?=some (.cells [.n 0]):=by simp[X]
  have a2:(X 0 0)[m.ε.length+2]?=some (.cells [.n 0]):=by simp[X]
  have b0:(X 0 0).set m.ε.length (.cells [.list .nil []])=X 0 0:=by simp[X]
  have b1:(X 0 0).set (m.ε.length+1) (.cells [.n 0])=X 0 0:=by simp[X]
  have b2:(X 0 0).set (m.ε.length+2) (.cells [.n 11])=X 0 11:=by simp[X]
  have c0:(X 0 11)[m.ε.length]?=some (.cells [.list .nil []]):=by simp[X]
  have c1:(X 0 11)[m.ε.length+1]?=some (.cells [.n 0]):=by simp[X]
  have c2:(X 0 11)[m.ε.length+2]?=some (.cells [.n 11]):=by simp[X]
  simp[h1,h2,h3,h4,h5,oJ,a0,a1,a2,b0,b1,b2,c0,c1,c2,Mem.put,Mem.ρ,ρ,cL,bh,lo,Γ.lo,uc,ma];exact⟨⟨_,rfl⟩,rfl⟩
 have oJ:¬(65536:Int)<s.length:=by omega
 refine χ (fun st=>K st/\st.mem= {ε:=X 0 0,η:=[]}) (by simp[K,h1,h2,h3,h4,h5,oJ]) fun s1 ⟨⟨h1,h2,h3,h4⟩,h5⟩=>?_;refine χ (fun st=>K st/\st.e 5= .μ (m.ε.length+3) 0/\st.mem= {ε:=X 0 0++[.cells [.list .nil []]],η:=[]}) (by simp[K,h1,h2,h3,h4,h5,hX,Mem.push,Mem.ρ,ρ,cL]) fun s1 ⟨⟨h1,h2,h3,h4⟩,h6,h5⟩=>?_;have xQ:∀n k,bn n k ((bG s).map Tok.cC)=(bG s).map Tok.cC:=fun n k=>by rw[fm,di];exact dz fun t _=>by simp[Tok.cC,exp,bn]
 refine aZ (fun st=>K st/\st.e 5= .μ (m.ε.length+3) 0/\pR (bG s)=none/\∃c,st.mem= {ε:=X 0 0++[.cells [.list c ((bG s).map Tok.cC)]],η:=[]}/\c.exp 0 false=if bG s=[]then .nil else .any) ?_ fun s2 ⟨⟨h1,h2,h3,h4⟩,h6,h7,c,h8,h9⟩=>?_
 ·have MQ:=fun m=>f130 (u:=u) s m;refine χ (fun st=>(K st/\st.e 5= .μ (m.ε.length+3) 0/\st.mem= {ε:=X 0 0++[.cells [.list .nil []]],η:=[]})/\st.e 11= .fn (.func 201) [] [.ref [.str s]]) (by simp[K,h1,h2,h3,h4,h5,h6,MQ]) fun s1 ⟨⟨⟨h1,h2,h3,h4⟩,h6,h5⟩,h7⟩=>?_;refine κ.block ?_;have e2:bq (s1.env.map ρ) 2= .μ m.ε.length 0:=by rw[BW];exact congrArg ρ h2
  have e3:bq (s1.env.map ρ) 3= .μ (m.ε.length+1) 0:=by rw[BW];exact congrArg ρ h3
  have e4:bq (s1.env.map ρ) 4= .μ (m.ε.length+2) 0:=by rw[BW];exact congrArg ρ h4
  have e5:bq (s1.env.map ρ) 5= .μ (m.ε.length+3) 0:=by rw[BW];exact congrArg ρ h6
  generalize GV:s1.env.map ρ=env at*;obtain⟨o8,T',e,zM,hT⟩:=f201 (u:=u) (σ:=List Tok×Option Int) (I:=fun x bs=>x.2=none/\∃c ext,bs=tM m.ε 0 0 env c x.1 .ready++ext/\Row (m.ε.length+5) bs 3 93 c x.1.length/\(x.1=[]->c= .nil))
   (D:=fun x bs=>∃w,x.2=some w/\∃c ext,bs=tM m.ε w 4 env c x.1 (.done none)++ext) (f:=qE) (N:=m.ε.length+3) (l:=m.ε.length+4)
   s hs (by omega) (fun x bs ⟨_,c,ext,h,_⟩=>by rw[h,dB,vi];omega) (cnt:=fun x=>x.1.length) (fun x t=>by simp only[qE];split<;>simp)
   (fun x bs T t ⟨hx,c,ext,h,hr,hn⟩ hc=>by
    subst h
    obtain⟨c',ext',T',k1,k2,k3⟩:=y55 (u:=u) m.ε env e2 e3 e4 e5 c x.1 ext hr (by omega) t T;by_cases hw:t.bB<0
    ·have e:qE x t=((x.1++[t],none),true):=if_pos hw;rw[if_pos hw,decide_eq_true hw]at k1;rw[e];exact⟨_,T',k1,⟨rfl,c',ext',rfl,by simpa using k2 hw,fun h=>by simp at h⟩,k3⟩
    ·have e:qE x t=((x.1,some t.bB),false):=if_neg hw;rw[if_neg hw,decide_eq_false hw]at k1;rw[e];exact⟨_,T',k1,⟨_,rfl,c',ext',rfl⟩,k3⟩) ([],none) (tM m.ε 0 0 env .nil [] .ready) [] ⟨rfl,.nil,[],by simp,Row.nil,fun _=>rfl⟩ rfl
  rw[JZ]at zM;have e0:tM m.ε 0 0 env .nil [] .ready=X 0 0++[.cells [.list .nil []]]++[.loop env [12] qL pN .ready]:=by simp[tM,X]
  rw[e0]at e;have G1:(X 0 0++[θ.cells [.list .nil []]]).length=m.ε.length+4:=by simp[hX]
  have e6:∀w e c l st ext,tM m.ε w e env c l st++ext=X w e++[.cells [.list c (l.map Tok.cC)]]++(.loop env [12] qL pN st::ext):=fun w e c l st ext=>by simp[tM,X]
  have wj:∀w e c l st ext,(tM m.ε w e env c l st++ext)[m.ε.length+4]?=some (.loop env [12] qL pN st):=fun w e c l st ext=>by simp[tM]
  cases hw:pR (bG s)with
  |none=>
   rw[hw]at zM
   simp only[cO]at zM;obtain⟨-,c,ext,rfl,hr,hn⟩|⟨w,h,_⟩:=zM
   ·obtain⟨c2,hb,GQ⟩:=IW (X 0 0) ((bG s).map Tok.cC) (xQ _ _) (by simp[mS,lv,Function.comp,Tok.cC,lo,bh]) T' c (fun i hi=>by rw[hX];exact(hT i hi).elim (fun h=>by cases h) id) (.loop env [12] qL pN .ready::ext) (X 0 0++[.cells [.list .nil []]]) (by simp);rw[<-e6]at hb;refine⟨(.normal,{s1 with mem:= {ε:=X 0 0++[.cells [.list c2 ((bG s).map Tok.cC)]],η:=[]}}),?_,?_⟩
    ·simp only[exec,d_,h7,AV.yu,xi,h5,G1,dM,GV];rw[<-qL,<-pN,e];simp only[wj,hb]
    ·refine .inr ⟨by simp,.inl ⟨rfl,⟨h1,h2,h3,h4⟩,h6,rfl,c2,rfl,?_⟩⟩;rw[GQ];by_cases h0:bG s=[]
     ·rw[hn h0,if_pos h0];rfl
     ·rw[if_neg h0];rcases hr with⟨_,hc⟩|⟨t,rfl,_,_⟩
      ·exact absurd (lU hc) h0
      ·rfl
   ·cases h
  |some w=>
   rw[hw]at zM
   obtain⟨h,_⟩|⟨w',h,c,ext,rfl⟩:=zM
   ·cases h
   ·cases h;generalize(kZ qE (bG s) ([],none)).1=l at*;have xQ:∀n k,bn n k (l.map Tok.cC)=l.map Tok.cC:=fun n k=>by rw[fm,di];exact dz fun t _=>by simp[Tok.cC,exp,bn]
    obtain⟨c2,hb,GQ⟩:=IW (X w 4) (l.map Tok.cC) (xQ _ _) (by simp[mS,lv,Function.comp,Tok.cC,lo,bh]) T' c (fun i hi=>by rw[hX];exact(hT i hi).elim (fun h=>by cases h) id) (.loop env [12] qL pN (.done none)::ext) (X 0 0++[.cells [.list .nil []]]) (by simp[hX]);rw[<-e6]at hb;refine⟨(.ret,{s1 with mem:= {ε:=X w 4++[.cells [.list c2 (l.map Tok.cC)]],η:=[]}}),?_,?_⟩
    ·simp only[exec,d_,h7,AV.yu,xi,h5,G1,dM,GV];rw[<-qL,<-pN,e];simp only[wj,hb]
    ·refine .inr ⟨by simp,.inr ⟨by simp,by simp,⟨_,by simp only[X,cr];rfl⟩,by simp,?_⟩⟩;have c0:∀x,(X w 4++x)[m.ε.length]?=some (.cells [.list .nil []]):=by simp[X]
     have c1:∀x,(X w 4++x)[m.ε.length+1]?=some (.cells [.n w]):=by simp[X]
     have c3:∀x,(X w 4++x)[m.ε.length+2]?=some (.cells [.n 4]):=by simp[X]
     simp[h2,h3,h4,c0,c1,c3,uc,ma,hw];rfl
 ·have g3:∀c l,(X 0 0++[θ.cells [.list c l]])[m.ε.length+3]?=some (.cells [.list c l]):=fun c l=>by simp[X]
  have g0:∀x,(X 0 0++x)[m.ε.length]?=some (.cells [.list .nil []]):=fun x=>by simp[X]
  have g1:∀x,(X 0 0++x)[m.ε.length+1]?=some (.cells [.n 0]):=fun x=>by simp[X]
  have g2:∀x,(X 0 0++x)[m.ε.length+2]?=some (.cells [.n 0]):=fun x=>by simp[X]
  let Z:List θ:=m.ε++[.cells [.list c ((bG s).map Tok.cC)],.cells [.n 0],.cells [.n 0],.cells [.list c ((bG s).map Tok.cC)]];have b0:(X 0 0++[θ.cells [.list c ((bG s).map Tok.cC)]]).set m.ε.length (.cells [.list c ((bG s).map Tok.cC)])=Z:=by simp[X,Z]
  have a0:Z[m.ε.length]?=some (.cells [.list c ((bG s).map Tok.cC)]):=by simp[Z]
  have a1:Z[m.ε.length+1]?=some (.cells [.n 0]):=by simp[Z]
  have a2:Z[m.ε.length+2]?=some (.cells [.n 0]):=by simp[Z]
  have b1:Z.set (m.ε.length+1) (.cells [.n 0])=Z:=by simp[Z]
  have b2:Z.set (m.ε.length+2) (.cells [.n 0])=Z:=by simp[Z]
  have hn:cL ((bG s).map Tok.cC)=(bG s).map Tok.cC:=by simp[fC,Function.comp,Tok.cC,ρ,cL]
  simp[h1,h2,h3,h4,h6,h8,g0,g1,g2,g3,hn,b0,a0,a1,a2,b1,b2,Mem.put,Mem.ρ,ρ,bh,lo];have hd:Dv (.aO [.list c ((bG s).map Tok.cC),.n 0,.n 0]) (.aO [.list (c.exp 0 false) ((bG s).map Tok.cC),.n 0,.n 0]):= .aO (.cons (.list c (bJ.of Tok.cC _ fun t _=>Tok.Qv t)) (.cons (.int _ _) (.cons (.int _ _) .nil)));refine⟨⟨_,rfl⟩,?_⟩;rw[hd.ax,uc,if_neg ma,h7,h9]
theorem Ed{t:Tok}(h:t.bB<0):t.cut=t.text:=if_pos h
theorem f53(s:List Nat)(hl:s.length<1000000000)(m:Mem):kf u 53 [.str s] m=some (uc s Tok.cC,m):=by
 refine bz (g:=Gw) rfl rfl rfl ?_;simp only[ah,aw,exp,Gw,c53];refine χ (fun st=>st.e 0= .str s/\st.q 6=none/\st.mem= {ε:=m.ε,η:=[]}) (by simp) fun s1 ⟨h1,h2,h3⟩=>?_;by_cases ma:65536<s.length
 ·have oJ:(65536:Int)<s.length:=by omega
  simp[h1,h2,h3,oJ,uc,ma];rfl
 have oJ:¬(65536:Int)<s.length:=by omega
 refine χ (fun st=>st.e 0= .str s/\st.q 6=none/\st.mem= {ε:=m.ε,η:=[]}) (by simp[h1,h2,h3,oJ]) fun s1 ⟨h1,h2,h3⟩=>?_;refine χ (fun st=>st.e 0= .str s/\st.q 6=none/\st.mem= {ε:=m.ε,η:=[]}/\st.e 5= .list .nil []) (by simp[h1,h2,h3]) fun s1 ⟨h1,h2,h3,h4⟩=>?_;have H5:∀m,kf u 127 [.str s,.n 2,.str [40,41,91,93,123,125,44,59,58,61,43,45,42]] m=some (.agg (mW s (bI false s)),m):=fun m=>f127 (u:=u) s (by omega) m;generalize hG:kZ qE (bG s) ([],none)=G;let I:Nat->St->Prop:=fun i st=>∃n p c l v ext,n<=s.length/\n+bI false (s.drop n)=p/\i<=p/\l.length<=p/\kZ qE (rest s n) (l,none)=G/\st.e 6= .Ω 6 v 0/\st.q 6=some (v,.cells (mW s p))∧
  st.e 5= .list c (l.map Tok.cC)/\(l=[]->c= .nil)/\st.mem= {ε:=m.ε++ext,η:=[]}/\Row m.ε.length (m.ε++ext) 3 94 c l.length
 refine aZ (fun st=>∃c l ext,G=(l,none)/\st.e 5= .list c (l.map Tok.cC)/\(l=[]->c= .nil)/\st.mem= {ε:=m.ε++ext,η:=[]}/\Row m.ε.length (m.ε++ext) 3 94 c l.length) ?_ fun s2 ⟨c,l,ext,hg,h4,hn,h5,hr⟩=>?_
 ·refine χ (fun st=>st.e 6= .Ω 6 0 0/\st.q 6=some (0,.cells (mW s (bI false s)))/\st.mem= {ε:=m.ε,η:=[]}/\st.e 5= .list .nil []) (by simp[h1,h2,h3,h4,H5,aQ,mW]) fun s1 ⟨h1,h2,h3,h4⟩=>?_;have hI:I 0 s1:=⟨0,bI false s,.nil,[],0,[],oY _,by simp,oY _,oY _,hG,h1,h2,h4,fun _=>rfl,by rw[List.append_nil];exact h3,Row.nil⟩;refine κ.block (κ.ki (I:=I) s.length hI fun i st hi τ=>?_);obtain⟨n,p,c,l,v,ext,hn,hp,hip,wj,oE,h6,h7,h5,tJ,h8,hr⟩:=τ;have hle:=Ax false (s.drop n);simp only[kz]at hle;have bo:p<=s.length:=by omega
  rw[M1 s n hn,hp]at oE;unfold SZ;simp only[mW]at h7;rcases bP p s.length with ν|cD
  ·rw[if_pos ν]at oE;have aj:¬p=s.length:=by omega
   simp only[aj,decide_false]at h7;have hlen:=Il p (s.drop p);have ji:0<(dK p (s.drop p)).text.length:=by rw[ko ν];exact AS _ _ _
   have nr:(dK p (s.drop p)).kind=0->0<=(dK p (s.drop p)).bB:=fun h=>by
    rw[Dr ν]at h⊢;split at h
    ·cases h
    ·split at h
     ·cases h
     ·split at h
      ·rename_i h4;simp only at h;rw[h]at h4;exact absurd h4 (by decide)
      ·simp_all
   simp only[kz]at hlen;have fR:(dK p (s.drop p)).at_=p:=by rw[Dr ν];(repeat' split)<;>rfl
   generalize dK p (s.drop p)=t at*;by_cases hw:t.bB<0
   ·have iz:¬0<=t.bB:=by omega
    have hk:¬t.kind=0:=fun h=>iz (nr h);rw[if_neg hk]at oE;simp only[kZ,qE,hw,if_true]at oE;rw[Ed hw]at h7;have MO:=fun m=>f128 (u:=u) s p t.at_ t.kind t.bB false t.text (p+t.text.length) rfl (by omega) (by omega) m;have fZ:Row m.ε.length (m.ε++ext) 3 94 c (l.map Tok.cC).length:=by rw[dq];exact hr
    obtain⟨c',ext',eN,dn,-⟩:=oT (bytes:=32) fZ (S9 l) (show shaped true 3 t.cC=true by rfl) (show ρ t.cC=t.cC by rfl) (by omega) (by simp;omega) (by simp;omega);have dv:shaped true 3 (.agg [.n t.at_,.n t.kind,.str t.text])=true:=rfl;rw[dq]at dn;simp only[Tok.cC]at eN;have jQ:c'≠ .nil:=by
     rcases dn with⟨_,h⟩|⟨t,rfl,_⟩
     ·omega
     ·exact fun h=>by cases h
    refine κ.done .normal (fun st=>∃v,st.e 6= .Ω 6 v 0/\st.q 6=some (v,.cells (mW s (p+t.text.length+bI false (s.drop (p+t.text.length)))))/\st.e 5= .list c' ((l++[t]).map Tok.cC)/\st.mem= {ε:=m.ε++ext',η:=[]}) (by simp[h6,h7,h5,h8,iz,dv,Mem.ρ,ρ,cL,Tok.cC,eN,aQ,MO,mW]) fun s' ⟨v,h6,h7,h5,h8⟩=> .inl ⟨rfl,by omega,p+t.text.length,_,c',l++[t],v,ext',by omega,rfl,by omega,by simp;omega,oE,h6,h7,h5,fun h=>by simp at h,h8,by simpa using dn⟩
   ·have iz:0<=t.bB:=by omega
    have Yv:G=(l,some t.bB):=by rw[<-oE];split<;>simp[kZ,qE,hw]
    refine κ.done .ret (fun st=>st.e 2= .list .nil []/\st.e 3= .n t.bB/\st.e 4= .n 4/\st.mem= {ε:=m.ε++ext,η:=[]}) (by simp[h6,h7,h5,h8,iz]) fun s' ⟨h1,h2,h3,h4⟩=> .inr ⟨by simp,.inr ⟨by simp,.inr ⟨by simp,by simp,⟨_,h4⟩,?_⟩⟩⟩;have oF:=JZ (bG s) [];rw[hG,Yv]at oF;have uI:pR (bG s)=some t.bB:=by
     cases hf:pR (bG s)with
     |none=>rw[hf]at oF;cases oF
     |some w=>rw[hf]at oF;simpa using(Prod.mk.inj oF).2.symm
    simp[h1,h2,h3,uc,ma,uI];rfl
  ·have:p=s.length:=by omega
   rw[if_neg (by omega)]at oE;simp only[this,decide_true]at h7;refine κ.done (.exit 0) (fun st=>st.e 5= .list c (l.map Tok.cC)/\st.mem= {ε:=m.ε++ext,η:=[]}) (by simp[h6,h7,h5,h8]) fun s' ⟨h1,h2⟩=> .inr ⟨by simp,.inl ⟨rfl,.inl ⟨rfl,c,l,ext,oE.symm,h1,tJ,h2,hr⟩⟩⟩
 ·have oF:=JZ (bG s) [];rw[hG,hg]at oF;have uI:pR (bG s)=none/\l=bG s:=by
   cases hf:pR (bG s)with
   |none=>rw[hf]at oF;exact⟨rfl,by simpa using(Prod.mk.inj oF).1⟩
   |some w=>rw[hf]at oF;cases oF
  obtain⟨uI,rfl⟩:=uI;have hd:Dv (.aO [.list c ((bG s).map Tok.cC),.n 0,.n 0]) (.aO [.list (c.exp 0 false) ((bG s).map Tok.cC),.n 0,.n 0]):= .aO (.cons (.list c (bJ.of Tok.cC _ fun t _=>Tok.Qv t)) (.cons (.int _ _) (.cons (.int _ _) .nil)));have zR:c.exp 0 false=if bG s=[]then .nil else .any:=by
   by_cases h0:bG s=[]
   ·rw[hn h0,if_pos h0];rfl
   ·rw[if_neg h0];rcases hr with⟨_,hc⟩|⟨t,rfl,_,_⟩
    ·exact absurd (lU hc) h0
    ·rfl
  simp[h4,h5];rw[hd.ax,uc,if_neg ma,uI,zR]
end Go.ab.Tz
