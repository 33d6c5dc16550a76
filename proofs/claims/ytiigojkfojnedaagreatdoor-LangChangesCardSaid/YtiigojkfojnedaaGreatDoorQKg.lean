import Derived.Test.YtiigojkfojnedaaGreatDoorQKa
import Derived.Test.YtiigojkfojnedaaGreatDoorQHc
set_option linter.unusedVariables false
set_option linter.unusedSimpArgs false
set_option linter.unusedSectionVars false
set_option maxRecDepth 100000
set_option maxHeartbeats 8000000
open List renaming replicate->rD,drop_eq_getElem_cons->jR,mem_append->dE,eq_of_mem_replicate->ahV,map_cons->ay,map_nil->aA,take_of_length_le->dY,length_drop->kK,getElem_mem->cL,length->nr,getElem?_eq_none->gZ,getElem?_append_left->dX,getElem?_append_right->s8,all_map->mK,append_assoc->cj,length_map->dd,getElem?_cons_zero->vp,nil_append->cI
open Nat renaming lt_or_ge->bP,zero_le->qu,le_refl->bF
open Go.IntKind renaming wrap->a_
open Bool renaming false_eq_true->gY
namespace Go.ah.Tz
open Go.ah
variable{u:Nat}
attribute [local simp] exec ed dP eX aC dQ ft eL ζ gg τ fW gy gH gI lf AV.cells newVar gE rd wr fK single eV bY ek dF μ aY RV.get aV dB iE
def yN:List AV:=rD 256 (.bool false)
def Lz:List KK:=rD 256 .bool
def OE(z:List AV):AC:=(.seq (.ops [⟨(some 2),.alloc false z,none⟩]) (.seq (.ops [⟨(some 3),.alloc false z,none⟩]) (.seq (.seq (.ops [⟨(some 5),.mv (.t 0),none⟩,⟨(some 6),.qd (.t 5),none⟩]) (.block 0 (.loop LH))) (.seq (.ops [⟨(some 14),.ld true 256 (.t 3),none⟩,⟨none,.st 256 (.t 2) (.t 14),none⟩]) .ret))))
def OC(ks:List KK):AC:=(.seq (.ops [⟨(some 2),.box false 256 (.t 0),none⟩,⟨(some 4),.mv (.c (.bool false)),none⟩]) (.seq (.draw [⟨(some 5),.ld true 256 (.t 2),none⟩,⟨(some 6),.mv (.t 1),none⟩,⟨(some 7),.conv (.int .i32) (.t 6),none⟩,⟨(some 8),.conv .char (.t 7),none⟩,⟨(some 9),.call (.c (.fn (.func 243) [] [])) [(.t 8)],none⟩,⟨(some 10),.eqs false ks (.t 5) (.t 9),none⟩,⟨(some 4),.mv (.t 10),none⟩] [(0,4)] []) .ret))
theorem VT:OD=OE yN:=rfl
theorem VS:OB=OC Lz:=rfl
def nR(f:Nat->Bool):List AV:=(List.range 256).map fun b=> .bool (f b)
theorem H4(f:Nat->Bool){b:Nat}(h:b<256):((nR f).drop b).take 1=[.bool (f b)]:=by
 have hl:b<(nR f).length:=by simpa[nR]using h
 rw[jR hl];simp[nR]
theorem Uc(f:Nat->Bool):(nR f).length=256:=by simp[nR]
def Hb(b:Nat):Bool:=decide (b∈eD)
def l4(b:Nat):List AV:=eV yN b [.bool true]
theorem agX:yN.length=256:=by simp[yN]
theorem SS{b:Nat}(h:b<256):(l4 b).length=256:=by simp[l4,yN];omega
theorem P1{b:Nat}(h:b<256):Fx (.agg (l4 b)):=by
 have h1:∀v∈l4 b,∃x,v= .bool x:=by
  intro v hv;simp only[l4,yN,eV,dE]at hv;rcases hv with(hv|hv)|hv
  ·exact⟨_,ahV (List.mem_of_mem_take hv)⟩
  ·exact⟨_,by simpa using hv⟩
  ·exact⟨_,ahV (List.mem_of_mem_drop hv)⟩
 have h2:=bB.of id (l4 b) fun v hv=>by obtain⟨x,rfl⟩:=h1 v hv;exact⟨rfl,rfl⟩
 rw[List.map_id]at h2;exact .agg h2
theorem f243(b:Nat)(h:b<128)(m:Mem):kf u 243 [.str [b]] m=some (.agg (l4 b),m):=by
 refine bD (g:=FI) rfl rfl rfl ?_;simp only[ay,aA,exp,FI,VT,OE];have hz:=agX;generalize Lt:yN=z at*;let K:St->Prop:=fun st=>ζ st.env 0= .str [b]/\ζ st.env 2= .ae 2 0 0/\τ st.loc 2=some (0,.cells z)/\ζ st.env 3= .ae 3 0 0/\st.mem= {ε:=m.ε,θ:=[]};refine ω (fun st=>ζ st.env 0= .str [b]/\ζ st.env 2= .ae 2 0 0/\τ st.loc 2=some (0,.cells z)/\τ st.loc 3=none/\st.mem= {ε:=m.ε,θ:=[]}) (by simp[aR]) fun s1 ⟨h0,h1,h2,h3,h4⟩=>?_;refine ω (fun st=>K st/\τ st.loc 3=some (0,.cells z)) (by simp[K,h0,h1,h2,h3,h4,aR]) fun s1 ⟨⟨h0,h1,h2,h3,h4⟩,h5⟩=>?_;refine bc (fun st=>K st/\τ st.loc 3=some (0,.cells (l4 b))) ?_ fun s2 ⟨⟨h0,h1,h2,h3,h4⟩,h5⟩=>?_
 ·let I:Nat->St->Prop:=fun i st=>K st/\τ st.loc 3=some (0,.cells (if i=0 then z else l4 b))/\∃v,ζ st.env 6= .ae 6 v 0/\τ st.loc 6=some (v,.iter [b] i);refine ω (I 0) (by simp[I,K,h0,h1,h2,h3,h4,h5]) fun s2 hI=>?_;refine μ.block (μ.jt (I:=I) 1 hI fun i st hi ψ=>?_);obtain⟨⟨h0,h1,h2,h3,h4⟩,h5,v,h6,h7⟩:=ψ;unfold LH;rcases bP i 1 with ρ|cG
  ·have:i=0:=by omega
   subst this;have hd:=Pv (s:=[b]) (i:=0) (by simp) (by simpa using h);simp only[ay,aA,List.getElem_cons_zero]at hd;have hb:(b:Int)<256:=by omega
   have cQ:b<256:=by omega
   have mS:b+1<=256:=by omega
   refine μ.done .normal (fun st=>I 1 st) (by simp[I,K,h0,h1,h2,h3,h4,h5,h6,h7,hd,hb,cQ,mS,hz,l4,Lt]) fun s' h=> .inl ⟨rfl,by omega,h⟩
  ·have:i=1:=by omega
   subst this;refine μ.done (.exit 0) (fun st=>K st/\τ st.loc 3=some (0,.cells (l4 b))) (by simp[K,h0,h1,h2,h3,h4,h5,h6,h7]) fun s' h=> .inr ⟨by simp,.inl ⟨rfl,.inl ⟨rfl,h⟩⟩⟩
 ·have Z2:(l4 b).length=256:=SS (by omega);have ht:(l4 b).take 256=l4 b:=dY (by omega);simp[h0,h1,h2,h3,h4,h5,Z2,hz,ht];exact(P1 (show b<256 by omega)).ai _ _ _
theorem f242(T:List AV)(hT:T.length=256)(r:Bool)(hr:kp Lz T (l4 48)=some r)(m:Mem)(hx:bn m.ε.length false T=T):kf u 242 [.agg T,.int .u8 48] m=some (.bool r,m):=by
 have q:=fun m=>f243 (u:=u) 48 (by omega) m;refine bD (g:=FH) rfl rfl rfl ?_;simp only[ay,aA,exp,hx,FH,VS,OC];have hw:a_ .i32 48=48:=by decide
 have he:(Utf8.encode 48).data.toList.map UInt8.toNat=[48]:=by rfl
 have ht:T.take 256=T:=dY (by omega);simp[aR,hT,q,hr,hw,he,ht,dm,dy,fm]
theorem adN:∀i,i<10->kp Lz (l4 (48+i)) (l4 48)=some (decide (i=0)):=by decide
def nM(B:List κ)(s:List Nat)(p q:Nat):List κ:=B++[.cells [.str s],.cells [.int .i64 p],.cells [.int .i64 q]]
section
variable(B:List κ)(s:List Nat)(p q:Nat)
theorem ads:(nM B s p q).length=B.length+3:=by simp[nM]
theorem wE:(nM B s p q)[B.length]?=some (.cells [.str s]):=by simp[nM]
theorem ra:(nM B s p q)[B.length+1]?=some (.cells [.int .i64 p]):=by simp[nM]
theorem CR:(nM B s p q)[B.length+2]?=some (.cells [.int .i64 q]):=by simp[nM]
theorem adt(r:Nat):(nM B s p q).set (B.length+2) (.cells [.int .i64 r])=nM B s p r:=by simp[nM]
end
theorem f239(f:Nat->Bool)(B:List κ)(s:List Nat)(hs:cX s)(p q:Nat)(hpq:p<=q)(hq:q<=s.length)(hl:s.length<4000000000)(T:List Nat):
  aU (C u) (.fn (.func 239) [] [.ν (B.length+2) 0,.ν B.length 0,.ν (B.length+1) 0]) [.agg (nR f)] {ε:=nM B s p q,θ:=T}=some (.int .i64 ((q+runN f (s.drop q)-p:Nat):Int),{ε:=nM B s p (q+runN f (s.drop q)),θ:=T}):=by
 have hle:=yF f (s.drop q);simp only[kK]at hle;generalize hr:q+runN f (s.drop q)=r at*;have hT:=Uc f;refine RH (m':= {ε:=nM B s p r,θ:=T}) (g:=FG) rfl rfl rfl ?_ rfl;have B3:∀n,bn n true (nR f)=nR f:=fun n=>by rw[fo];simp[nR,exp]
 have dL:([AV.agg (nR f)]++[AV.ν (B.length+2) 0,.ν B.length 0,.ν (B.length+1) 0]).map (exp (nM B s p q).length true)=[AV.agg (nR f),.ν (B.length+2) 0,.ν B.length 0,.ν (B.length+1) 0]:=by simp[B3,exp,ads]
 rw[dL];simp only[FG,OA];let K:Nat->St->Prop:=fun q st=>ζ st.env 1= .ν (B.length+2) 0/\ζ st.env 2= .ν B.length 0/\ζ st.env 3= .ν (B.length+1) 0/\ζ st.env 4= .ae 4 0 0/\τ st.loc 4=some (0,.cells (nR f))/\st.mem= {ε:=nM B s p q,θ:=[]};refine ω (K q) (by simp[K,aR,hT]) fun s1 hK=>?_;refine bc (K r) ?_ fun s2 ⟨h1,h2,h3,h4,h5,h6⟩=>?_
 ·let I:Nat->St->Prop:=fun i st=>∃x:Nat,K x st/\q+i=x/\x<=s.length/\x+runN f (s.drop x)=r;have h0:I 0 s1:=⟨q,hK,rfl,hq,hr⟩;refine μ.block (μ.jt (I:=I) s.length h0 fun i st hi ψ=>?_);obtain⟨x,⟨h1,h2,h3,h4,h5,h6⟩,hx,Rr,G'⟩:=ψ;unfold R8;rcases bP x s.length with ρ|cG
  ·have hb:s[x]<256:=hs _ (cL ρ);have cQ:(s[x]:Int)<256:=by omega
   have mS:s[x]+1<=256:=by omega
   have hg:=H4 f hb;have hw:a_ .i64 ((x:Int)+1)=((x+1:Nat):Int):=by rw[wrap_i64 (by omega) (by omega)];omega
   rw[yE ρ]at G';cases hc:f s[x]with
   |false=>
    rw[hc]at hg
    simp only[hc,gY,if_false]at G';have:x=r:=by omega
    subst this;refine μ.done (.exit 0) (fun st=>K x st) (by simp[K,h1,h2,h3,h4,h5,h6,wE,ra,CR,ρ,hb,cQ,mS,hT,hg]) fun s' h=> .inr ⟨by simp,.inl ⟨rfl,.inl ⟨rfl,h⟩⟩⟩
   |true=>
    rw[hc]at hg
    simp only[hc,if_true]at G';have ky:(nM B s p x).set (B.length+2) (.cells [.int .i64 ((x:Int)+1)])=nM B s p (x+1):=adt B s p x (x+1);refine μ.done .normal (fun st=>K (x+1) st) (by simp[K,h1,h2,h3,h4,h5,h6,wE,ra,CR,ρ,hb,cQ,mS,hT,hg,hw,Mem.put,Mem.φ,φ,bp,lo,ky]) fun s' h=> .inl ⟨rfl,by omega,x+1,h,by omega,by omega,by omega⟩
  ·have:x=s.length:=by omega
   subst this;rw[MF]at G';have:s.length=r:=by omega
   rw[this]at h6;refine μ.done (.exit 0) (fun st=>K r st) (by simp[K,h1,h2,h3,h4,h5,h6,wE,ra,CR,this]) fun s' h=> .inr ⟨by simp,.inl ⟨rfl,.inl ⟨rfl,h⟩⟩⟩
 ·have hw:a_ .i64 ((r:Int)-p)=((r-p:Nat):Int):=by rw[wrap_i64 (by omega) (by omega)];omega
  simp[h1,h2,h3,h4,h5,h6,ra,CR,hw,exp]
def _root_.Go.ah.Tok.ba(t:Tok):AV:= .agg [.int .i64 t.at_,.int .i64 t.kind,.str t.text,.int .i64 t.cZ]
theorem Bi{b:Nat}(h:dx b=true):48<=b/\b<=57:=by simpa[dx]using h
theorem f203(s:List Nat)(hs:cX s)(p:Nat)(hp:p<s.length)(hl:s.length<4000000000)(m:Mem):
  kf u 203 [.str s,.int .i64 p] m=some ((dA p (s.drop p)).ba,m):=by
 refine bD (g:=Fl) rfl rfl rfl ?_;have fS:=H7 hp;have hb:s[p]<256:=hs _ (cL hp);simp only[ay,aA,exp,Fl,c203];have Mw:∀m,kf u 240 [] m=some (.agg (nR isLet),m):=fun m=>Am (p:=tX Dk) (by rfl) (by rfl);have C9:∀m,kf u 241 [] m=some (.agg (nR dx),m):=fun m=>Am (p:=tX Dl) (by rfl) (by rfl);have Tw:∀m,kf u 244 [] m=some (.agg (nR Hb),m):=fun m=>Am (p:=tX Dm) (by rfl) (by rfl);have rm:=fun f T=>f239 (u:=u) f m.ε s hs p (p+1) (by omega) (by omega) hl T;have hw:a_ .i64 ((p:Int)+1)=((p+1:Nat):Int):=by rw[wrap_i64 (by omega) (by omega)];omega
 let K:Nat->St->Prop:=fun q st=>ζ st.env 2= .ν m.ε.length 0/\ζ st.env 3= .ν (m.ε.length+1) 0/\ζ st.env 4= .ae 4 0 0/\τ st.loc 4=some (0,.cells [.int .i64 0,.int .i64 0,.str [],.int .i64 0])/\ζ st.env 5= .ae 5 0 0/\ζ st.env 6= .ν (m.ε.length+2) 0/\st.mem= {ε:=nM m.ε s p q,θ:=[]};let T:Int->List Nat->Int->St->Prop:=fun k t w st=>τ st.loc 5=some (0,.cells [.int .i64 p,.int .i64 k,.str t,.int .i64 w]);refine ω (fun st=>ζ st.env 2= .ν m.ε.length 0/\ζ st.env 3= .ν (m.ε.length+1) 0/\ζ st.env 4= .ae 4 0 0/\τ st.loc 4=some (0,.cells [.int .i64 0,.int .i64 0,.str [],.int .i64 0])/\τ st.loc 5=none/\st.mem= {ε:=m.ε++[.cells [.str s],.cells [.int .i64 p]],θ:=[]}) (by simp[aR,Mem.push,Mem.φ,φ]) fun s1 ⟨h1,h2,h3,h4,h5,h6⟩=>?_;refine ω (fun st=>K (p+1) st/\T 0 [] (-1) st) (by simp[K,T,h1,h2,h3,h4,h5,h6,aR,cF,hw,Mem.push,Mem.put,Mem.φ,φ,bp,lo,dm,vC,dy,fm,AV.gz,AV.beq,nM]) fun s1 ⟨⟨h1,h2,h3,h4,h5,h6,h7⟩,h8⟩=>?_;have QZ:=yF isLet (s.drop p);have KI:=yF dx (s.drop p);simp only[kK]at QZ KI;have cQ:(s[p]:Int)<256:=by omega
 have mS:s[p]+1<=256:=by omega
 have g1:=H4 isLet hb;have g2:=H4 dx hb;have g3:=H4 Hb hb;have hT:=fun f=>Uc f;generalize iX:dA p (s.drop p)=tk at fS;refine ω (fun st=>K (p+1) st/\T 0 [] (-1) st/\ζ st.env 7= .fn (.func 239) [] [.ν (m.ε.length+2) 0,.ν m.ε.length 0,.ν (m.ε.length+1) 0]) (by simp[K,T,h1,h2,h3,h4,h5,h6,h7,h8]) fun s1 ⟨⟨h1,h2,h3,h4,h5,h6,h7⟩,h8,h9⟩=>?_;have sq:isLet s[p]=true->p+1+runN isLet (s.drop (p+1))=p+runN isLet (s.drop p):=fun h=>by rw[yE hp,h];simp;omega
 have zV:dx s[p]=true->p+1+runN dx (s.drop (p+1))=p+runN dx (s.drop p):=fun h=>by rw[yE hp,h];simp;omega
 have dH:∀n:Nat,p+n-p=n:=fun n=>by omega
 refine bc (fun st=>K (p+tk.text.length) st/\T tk.kind [] tk.cZ st/\tk.at_=p/\tk.text=(s.drop p).take tk.text.length/\p+tk.text.length<=s.length) ?_ fun s2 ⟨⟨h1,h2,h3,h4,h5,h6,h7⟩,h8,h9,aH,cO⟩=>?_
 ·refine ω (fun st=>(K (p+1) st/\T 0 [] (-1) st)/\ζ st.env 7= .fn (.func 239) [] [.ν (m.ε.length+2) 0,.ν m.ε.length 0,.ν (m.ε.length+1) 0]/\ζ st.env 8= .int .u8 s[p]) (by simp[K,T,h1,h2,h3,h4,h5,h6,h7,h8,h9,wE,ra,hp]) fun s1 ⟨⟨⟨h1,h2,h3,h4,h5,h6,h7⟩,h8⟩,h9,aH⟩=>?_;simp only[T]at h8;refine μ.block ?_;refine ω (fun st=>((K (p+1) st/\T 0 [] (-1) st)/\ζ st.env 7= .fn (.func 239) [] [.ν (m.ε.length+2) 0,.ν m.ε.length 0,.ν (m.ε.length+1) 0]/\ζ st.env 8= .int .u8 s[p])/\ζ st.env 21= .bool (isLet s[p])) (by simp[K,T,h1,h2,h3,h4,h5,h6,h7,h8,h9,aH,Mw,cQ,mS,hT,g1]) fun s1 ⟨⟨⟨⟨h1,h2,h3,h4,h5,h6,h7⟩,h8⟩,h9,aH⟩,cO⟩=>?_;simp only[T]at h8;cases c1:isLet s[p]with
  |true=>
   have sq:=sq c1
   rw[c1]at fS;simp only[if_true]at fS;refine μ.yes (by simp[cO,c1]) ?_;have rm:=rm isLet [];rw[sq,dH]at rm;generalize hr:runN isLet (s.drop p)=r at*;have hlen:((s.drop p).take r).length=r:=by simp;omega
   have ji:a_ .i64 ((p:Int)+8)=(p:Int)+8:=wrap_i64 (by omega) (by omega);subst fS;by_cases Qk:8<r
   ·have JQ:(8:Int)<r:=by omega
    refine μ.done .normal (fun st=>K (p+r) st/\T 1 [] ((p:Int)+8) st) (by simp[K,T,h1,h2,h3,h4,h5,h6,h7,h8,h9,aH,Mw,rm,JQ,ra,ji]) fun s' h=> .inr ⟨by simp,.inl ⟨rfl,?_⟩⟩;simp only[Qk,if_true,hlen];exact⟨h.1,h.2,trivial,trivial,by omega⟩
   ·have JQ:¬(8:Int)<r:=by omega
    refine μ.done .normal (fun st=>K (p+r) st/\T 1 [] (-1) st) (by simp[K,T,h1,h2,h3,h4,h5,h6,h7,h8,h9,aH,Mw,rm,JQ,ra,ji]) fun s' h=> .inr ⟨by simp,.inl ⟨rfl,?_⟩⟩;simp only[Qk,if_false,hlen];exact⟨h.1,h.2,trivial,trivial,by omega⟩
  |false=>
   refine μ.no (by simp[cO,c1]) ?_
   rw[c1]at fS;simp only[gY,if_false]at fS;refine ω (fun st=>((K (p+1) st/\T 0 [] (-1) st)/\ζ st.env 7= .fn (.func 239) [] [.ν (m.ε.length+2) 0,.ν m.ε.length 0,.ν (m.ε.length+1) 0]/\ζ st.env 8= .int .u8 s[p])/\ζ st.env 34= .bool (dx s[p])) (by simp[K,T,h1,h2,h3,h4,h5,h6,h7,h8,h9,aH,C9,cQ,mS,hT,g2]) fun s1 ⟨⟨⟨⟨h1,h2,h3,h4,h5,h6,h7⟩,h8⟩,h9,aH⟩,cO⟩=>?_;simp only[T]at h8;cases c2:dx s[p]with
   |true=>
    have zV:=zV c2
    rw[c2]at fS;simp only[if_true]at fS;refine μ.yes (by simp[cO,c2]) ?_;have rm:=rm dx [];rw[zV,dH]at rm;generalize hr:runN dx (s.drop p)=r at*;have hlen:((s.drop p).take r).length=r:=by simp;omega
    have hd:=Bi c2;have My:=fun m=>f243 (u:=u) s[p] (by omega) m;have Mx:∀m,kf u 242 [.agg (l4 s[p]),.int .u8 48] m=some (.bool (decide (s[p]=48)),m):=fun m=>by
     refine f242 (u:=u) (l4 s[p]) (SS hb) _ ?_ m ?_
     ·have:=adN (s[p]-48) (by omega);rw[show 48+(s[p]-48)=s[p] by omega]at this;rw[this];congr 1;simp only[decide_eq_decide];omega
     ·have:=(P1 hb).El m.ε.length;simpa only[exp,AV.agg.injEq]using this
    have sx:(s.take (p+1)).drop p=[s[p]]:=by rw[Dj (by omega),show p+1-p=1 by omega,jR hp];rfl
    have pU:a_ .i64 ((p:Int)+1)=(p:Int)+1:=wrap_i64 (by omega) (by omega);have ji:a_ .i64 ((p:Int)+2)=(p:Int)+2:=wrap_i64 (by omega) (by omega);have bN:(p:Int)<=(p:Int)+1:=by omega
    have BQ:(0:Int)<=(p:Int)+1:=by omega
    have BR:(p:Int)+1<=s.length:=by omega
    subst fS;have fin:∀st w,K (p+r) st/\T 2 [] w st->w=(if 1<r/\s[p]=48 then(p:Int)+1 else if 2<r then(p:Int)+2 else-1)->K (p+((s.drop p).take r).length) st/\T 2 [] (if 1<r/\s[p]=48 then(p:Int)+1 else if 2<r then(p:Int)+2 else-1) st/\p=p/\(s.drop p).take r=(s.drop p).take ((s.drop p).take r).length/\p+((s.drop p).take r).length<=s.length:=by intro st w h hw;rw[hlen,<-hw];exact⟨h.1,h.2,rfl,rfl,by omega⟩
    by_cases ha:1<r
    ·have zD:(1:Int)<r:=by omega
     by_cases hz:s[p]=48
     ·refine μ.done .normal (fun st=>K (p+r) st/\T 2 [] ((p:Int)+1) st) (by simp[K,T,h1,h2,h3,h4,h5,h6,h7,h8,h9,aH,C9,rm,Mx,My,zD,decide_eq_true hz,wE,ra,pU,bound,sx,bN,BQ,BR]) fun s' h=> .inr ⟨by simp,.inl ⟨rfl,fin _ _ h (by simp[ha,hz])⟩⟩
     ·by_cases hy:2<r
      ·have lX:(2:Int)<r:=by omega
       refine μ.done .normal (fun st=>K (p+r) st/\T 2 [] ((p:Int)+2) st) (by simp[K,T,h1,h2,h3,h4,h5,h6,h7,h8,h9,aH,C9,rm,Mx,My,zD,lX,hz,wE,ra,pU,ji,bound,sx,bN,BQ,BR]) fun s' h=> .inr ⟨by simp,.inl ⟨rfl,fin _ _ h (by simp[hy,hz])⟩⟩
      ·have lX:¬(2:Int)<r:=by omega
       refine μ.done .normal (fun st=>K (p+r) st/\T 2 [] (-1) st) (by simp[K,T,h1,h2,h3,h4,h5,h6,h7,h8,h9,aH,C9,rm,Mx,My,zD,lX,hz,wE,ra,pU,ji,bound,sx,bN,BQ,BR]) fun s' h=> .inr ⟨by simp,.inl ⟨rfl,fin _ _ h (by simp[hy,hz])⟩⟩
    ·have zD:¬(1:Int)<r:=by omega
     have lX:¬(2:Int)<r:=by omega
     have hy:¬2<r:=by omega
     refine μ.done .normal (fun st=>K (p+r) st/\T 2 [] (-1) st) (by simp[K,T,h1,h2,h3,h4,h5,h6,h7,h8,h9,aH,C9,rm,zD,lX]) fun s' h=> .inr ⟨by simp,.inl ⟨rfl,fin _ _ h (by simp[ha,hy])⟩⟩
   |false=>
    refine μ.no (by simp[cO,c2]) ?_
    rw[c2]at fS;simp only[gY,if_false]at fS;have zJ:(s.drop p).take 1=[s[p]]:=by rw[jR hp];rfl
    have pU:a_ .i64 (s[p]:Int)=(s[p]:Int):=wrap_i64 (by omega) (by omega);by_cases c3:s[p]∈eD
    ·rw[if_pos c3]at fS;have JF:Hb s[p]=true:=decide_eq_true c3;rw[JF]at g3;subst fS;refine μ.done .normal (fun st=>K (p+1) st/\T s[p] [] (-1) st) (by simp[K,T,h1,h2,h3,h4,h5,h6,h7,h8,h9,aH,Tw,cQ,mS,hT,g3,pU]) fun s' h=> .inr ⟨by simp,.inl ⟨rfl,h.1,h.2,rfl,zJ.symm,hp⟩⟩
    ·rw[if_neg c3]at fS;have JF:Hb s[p]=false:=decide_eq_false c3;rw[JF]at g3;subst fS;refine μ.done .normal (fun st=>K (p+1) st/\T 0 [] p st) (by simp[K,T,h1,h2,h3,h4,h5,h6,h7,h8,h9,aH,Tw,cQ,mS,hT,g3,ra]) fun s' h=> .inr ⟨by simp,.inl ⟨rfl,h.1,h.2,rfl,zJ.symm,hp⟩⟩
 ·simp only[T]at h8;have bN:(p:Int)<=(p:Int)+tk.text.length:=by omega
  have BQ:(0:Int)<=(p:Int)+tk.text.length:=by omega
  have BR:(p:Int)+tk.text.length<=s.length:=by omega
  have sx:(s.take (p+tk.text.length)).drop p=tk.text:=by rw[Dj (by omega),show p+tk.text.length-p=tk.text.length by omega];exact aH.symm
  have e1:((p:Int)+tk.text.length).toNat=p+tk.text.length:=by omega
  simp[h1,h2,h3,h4,h5,h6,h7,h8,wE,ra,CR,bound,bN,BQ,BR,e1,sx];refine⟨⟨_,rfl⟩,?_⟩;rw[Tok.ba,h9];rfl
def rest(s:List Nat)(n:Nat):List Tok:=ru (s.length+1) n (s.drop n)
theorem afl(s:List Nat):rest s 0=cY s:=rfl
theorem TE(s:List Nat)(n:Nat)(hn:n<=s.length):rest s n=if n+bO false (s.drop n)<s.length then
  (if(dA (n+bO false (s.drop n)) (s.drop (n+bO false (s.drop n)))).kind=0 then[dA (n+bO false (s.drop n)) (s.drop (n+bO false (s.drop n)))]
   else dA (n+bO false (s.drop n)) (s.drop (n+bO false (s.drop n)))::rest s (n+bO false (s.drop n)+(dA (n+bO false (s.drop n)) (s.drop (n+bO false (s.drop n)))).text.length))else[]:=by
 have hle:=CL false (s.drop n);simp only[kK]at hle
 conv=>lhs;rw[rest,ru]
 simp only[kK,List.drop_drop];by_cases h:n+bO false (s.drop n)<s.length
 ·have h1:¬s.length-n<=bO false (s.drop n):=by omega
  rw[if_neg h1,if_pos h];split
  ·rfl
  ·congr 1;cases hr:s.drop (n+bO false (s.drop n))with
   |nil=>have:=congrArg nr hr;simp at this;omega
   |cons b r=>
    have hp:=Dn (n+bO false (s.drop n)) b r
    rw[<-hr]at hp;rw[<-hr];refine ago _ _ _ _ ?_ ?_<;>simp only[kK]<;>omega
 ·have h1:s.length-n<=bO false (s.drop n):=by omega
  rw[if_pos h1,if_neg h]
def rU{σ:Type}(f:σ->Tok->σ×Bool):List Tok->σ->σ
 |[],x=>x
 |t::l,x=>if(f x t).2 then rU f l (f x t).1 else(f x t).1
theorem f201{σ:Type}{I D:σ->List κ->Prop}{f:σ->Tok->σ×Bool}{N l:Nat}(s:List Nat)(hs:cX s)(hl:s.length<4000000000)
  (hI:∀x bs,I x bs->l<bs.length)
  {cnt:σ->Nat} (fp:∀x t,cnt (f x t).1<=cnt x+1)
  (hy:∀x bs T t,I x bs->cnt x<s.length->∃pc T',aU (C u) (.fn (.yield l) [] []) [t.ba] {ε:=bs,θ:=T}=some (.bool (f x t).2,{ε:=pc,θ:=T'})/\(if(f x t).2 then I (f x t).1 pc else D (f x t).1 pc)/\∀i∈T',i∈T\/N<=i)
  (x:σ) (bs:List κ) (T:List Nat) (hx:I x bs) (zH:cnt x=0):
  ∃pc T',aU (C u) (.fn (.func 201) [] [.ref [.str s]]) [.fn (.yield l) [] []] {ε:=bs,θ:=T}=some (.aP [],{ε:=pc,θ:=T'})/\(I (rU f (cY s) x) pc\/D (rU f (cY s) x) pc)/\∀i∈T',i∈T\/N<=i:=by
 generalize hG:rU f (cY s) x=G;have dj:μ (C u).gl (aU (C u)) BE.code {env:=([AV.fn (.yield l) [] []]++[AV.ref [.str s]]).map (exp bs.length true),loc:=[],mem:= {ε:=bs,θ:=[]}} fun r=>
   (∀i,r.1≠ .exit i)/\(I G r.2.mem.ε\/D G r.2.mem.ε)/\∀i∈r.2.mem.θ,N<=i:=by
  have pJ:=hI _ _ hx;have dL:([AV.fn (.yield l) [] []]++[AV.ref [.str s]]).map (exp bs.length true)=[AV.fn (.yield l) [] [],AV.ref [.str s]]:=by simp[exp,bn,Fn.below,pJ]
  rw[dL];simp only[BE,c201];have C7:=fun n hn m=>f202 (u:=u) s hs n hn hl m;have HS:=fun p hp m=>f203 (u:=u) s hs p hp hl m;let K:St->Prop:=fun st=>ζ st.env 0= .fn (.yield l) [] []/\ζ st.env 1= .ref [.str s]/\∀i∈st.mem.θ,N<=i;let J:Nat->St->Prop:=fun i st=>K st/\∃n y,I y st.mem.ε/\n<=s.length/\(i<=n+bO false (s.drop n)/\cnt y<=n+bO false (s.drop n))/\rU f (rest s n) y=G/\ζ st.env 3= .int .i64 ((n+bO false (s.drop n):Nat):Int);have q0:∀m,kf u 202 [.str s,.int .i64 0] m=some (.int .i64 (bO false s:Nat),m):=fun m=>by have:=C7 0 (qu _) m;rw[List.drop_zero,Nat.zero_add]at this;exact this
  refine ω (J 0) (by
   simp[J,K,q0]
   exact⟨0,x,hx,qu _,by omega,hG,by simp⟩) fun s1 hJ=>?_
  refine μ.block (μ.jt (I:=J) s.length hJ fun i st hi ψ=>?_);obtain⟨⟨h1,h2,h3⟩,n,y,h4,h5,⟨h6,h66⟩,h7,h8⟩:=ψ;rw[TE s n h5]at h7;have hle:=CL false (s.drop n);simp only[kK]at hle;generalize hp:n+bO false (s.drop n)=p at*;generalize rZ:st.mem.ε=bb at h4;generalize lC:st.mem.θ=tt at h3;have hm:st.mem= {ε:=bb,θ:=tt}:=by rw[<-rZ,<-lC]
  unfold R3;rcases bP p s.length with ρ|cG
  ·rw[if_pos ρ]at h7;have HS:=HS p ρ;have dq:(p:Int)<s.length:=by omega
   have hlen:=MU p (s.drop p);have jh:0<(dA p (s.drop p)).text.length:=by rw[jR ρ];exact Dn _ _ _
   simp only[kK]at hlen;generalize dA p (s.drop p)=tk at*;obtain⟨A4,T',e,xD,Yc⟩:=hy y bb tt tk h4 (by omega);have fp:=fp y tk;obtain⟨a,k,tx,w⟩:=tk;simp only[Tok.ba]at e HS;dsimp only at h7 hlen jh xD e fp;have JV:∀i∈T',N<=i:=fun i hi=>(Yc i hi).elim (h3 i) id;refine ω (fun st=>ζ st.env 0= .fn (.yield l) [] []/\ζ st.env 1= .ref [.str s]/\ζ st.env 3= .int .i64 p/\st.mem= {ε:=bb,θ:=tt}) (by simp[h1,h2,h8,hm,dq]) fun s1 ⟨h1,h2,h3,h8⟩=>?_;refine μ.block ?_;refine ω (fun st=>ζ st.env 0= .fn (.yield l) [] []/\ζ st.env 1= .ref [.str s]/\ζ st.env 3= .int .i64 p/\st.mem= {ε:=bb,θ:=tt}/\ζ st.env 4= .ae 4 (aR (τ s1.loc) 4) 0/\τ st.loc 4=some (aR (τ s1.loc) 4,.cells [.int .i64 a,.int .i64 k,.str tx,.int .i64 w])) (by simp[h1,h2,h3,h8,HS]) fun s2 ⟨h1,h2,h3,h8,h9,aH⟩=>?_;generalize aR (τ s1.loc) 4=vv at*;refine bc (fun st=>ζ st.env 0= .fn (.yield l) [] []/\ζ st.env 1= .ref [.str s]/\ζ st.env 3= .int .i64 p/\st.mem= {ε:=A4,θ:=T'}/\ζ st.env 4= .ae 4 vv 0/\τ st.loc 4=some (vv,.cells [.int .i64 a,.int .i64 k,.str tx,.int .i64 w])/\k≠0/\(f y ⟨a,k,tx,w⟩).2=true) ?_ fun s3 ⟨h1,h2,h3,h8,h9,aH,cO,mA⟩=>?_
   ·cases hc:(f y ⟨a,k,tx,w⟩).2 with
    |false=>
     rw[hc]at e
     refine μ.done .ret (fun st=>st.mem= {ε:=A4,θ:=T'}) (by simp[h1,h2,h3,h8,h9,aH,e]) fun s' h=> .inr ⟨by simp,.inr ⟨by simp,.inr ⟨by simp,.inr ⟨by simp,by simp,?_⟩⟩⟩⟩;rw[h];refine⟨?_,JV⟩;have:(f y ⟨a,k,tx,w⟩).1=G:=by split at h7<;>simpa[rU,hc]using h7
     rw[hc]at xD;rw[<-this];exact .inr xD
    |true=>
     rw[hc]at e
     by_cases hk:k=0
     ·have da:((k:Int)==0)=true:=beq_iff_eq.2 (by omega);refine μ.done .ret (fun st=>st.mem= {ε:=A4,θ:=T'}) (by simp[h1,h2,h3,h8,h9,aH,e,da]) fun s' h=> .inr ⟨by simp,.inr ⟨by simp,.inr ⟨by simp,.inr ⟨by simp,by simp,?_⟩⟩⟩⟩;simp only[hk,if_true,rU]at h7;rw[h];refine⟨?_,JV⟩;have:(f y ⟨a,k,tx,w⟩).1=G:=by simpa[hk,hc]using h7
      rw[hc,if_pos rfl]at xD;rw[<-this];exact .inl xD
     ·have da:((k:Int)==0)=false:=beq_eq_false_iff_ne.2 (by omega);refine μ.done .normal (fun st=>ζ st.env 0= .fn (.yield l) [] []/\ζ st.env 1= .ref [.str s]/\ζ st.env 3= .int .i64 p/\st.mem= {ε:=A4,θ:=T'}/\ζ st.env 4= .ae 4 vv 0/\τ st.loc 4=some (vv,.cells [.int .i64 a,.int .i64 k,.str tx,.int .i64 w])) (by simp[h1,h2,h3,h8,h9,aH,e,da,hk]) fun s' h=> .inl ⟨rfl,?_⟩;exact⟨h.1,h.2.1,h.2.2.1,h.2.2.2.1,h.2.2.2.2.1,h.2.2.2.2.2,hk,rfl⟩
   ·have hw:a_ .i64 ((p:Int)+tx.length)=(p:Int)+tx.length:=wrap_i64 (by omega) (by omega);have C7:=C7 (p+tx.length) (by omega);simp only[Int.natCast_add]at C7;rw[if_neg cO]at h7;refine μ.done .normal (fun st=>ζ st.env 0= .fn (.yield l) [] []/\ζ st.env 1= .ref [.str s]/\ζ st.env 3= .int .i64 ((p+tx.length+bO false (s.drop (p+tx.length)):Nat):Int)/\st.mem= {ε:=A4,θ:=T'}) (by simp[h1,h2,h3,h8,h9,aH,hw,C7]) fun s' ⟨h1,h2,h3,h8⟩=> .inr ⟨by simp,?_⟩;refine .inl ⟨rfl,by omega,⟨h1,h2,by rw[h8];exact JV⟩,p+tx.length,_,by rw[mA,if_pos rfl]at xD;rw[h8];exact xD,by omega,by omega,?_,h3⟩;simpa[rU,mA]using h7
  ·rw[if_neg (by omega)]at h7;have B5:¬(p:Int)<s.length:=by omega
   refine μ.done (.exit 0) (fun st=>st.mem= {ε:=bb,θ:=tt}) (by simp[h1,h2,h8,hm,B5]) fun s' h=> .inr ⟨by simp,?_⟩;refine .inl ⟨rfl,by simp,?_⟩;rw[h];refine⟨?_,h3⟩;simp only[rU]at h7;rw[<-h7];exact .inl h4
 obtain⟨⟨ex,s'⟩,h1,h2,h3,h4⟩:=dj;refine⟨s'.mem.ε,T++s'.mem.θ,?_,h3,fun i hi=>(dE.1 hi).imp id (h4 i)⟩;have:=uq (C:=C u) (f:=201) (g:=BE) (args:=[.fn (.yield l) [] []]) (cap:=[.ref [.str s]]) (m:= {ε:=bs,θ:=T}) (l:=[]) rfl rfl rfl h1 h2 (by rfl);exact this
theorem f130(s:List Nat)(m:Mem):kf u 130 [.str s] m=some (.fn (.func 201) [] [.ref [.str s]],m):=by refine bD (g:=EP) rfl rfl rfl ?_;simp[EP,c130,exp,Mem.push,Mem.φ,φ,ai,bK,hU,Fn.below]
theorem oX{α:Type}{l:List α}{i:Nat}{x:α}(h:l[i]?=some x):i<l.length:=by
 rcases bP i l.length with hl|hl
 ·exact hl
 ·rw[gZ hl]at h;cases h
theorem Row.push{n:Nat}{bs:List κ}{sz:Nat}{e:TypeId}{c:χ}{len:Nat}(h:Row n bs sz e c len)(x:List κ):Row n (bs++x) sz e c len:=by
 rcases h with h|⟨t,h1,h2,h3⟩
 ·exact .inl h
 ·refine .inr ⟨t,h1,h2,?_⟩;rw[dX (oX h3)];exact h3
theorem Row.swap{n:Nat}{P P' x:List κ}{sz:Nat}{e:TypeId}{c:χ}{len:Nat}(h:Row n (P++x) sz e c len)(h1:P.length=P'.length)(h2:P.length<=n):Row n (P'++x) sz e c len:=by
 rcases h with h|⟨t,k1,k2,k3⟩
 ·exact .inl h
 ·refine .inr ⟨t,k1,k2,?_⟩;rw[s8 (by omega)]at k3⊢;rw[<-h1];exact k3
theorem agW{C:iM}{l:Nat}{args:List AV}{mem:Mem}{env:List AV}{ps:List Nat}{fL bd:AC}{Ax:LS}{M:St->Prop}{Q:AV->Mem->Prop}(hm:mem.ε[l]?=some (.loop env ps fL bd Ax))(hl:ps.length=args.length)
  (h1:μ C.gl (aU C) fL {env:=va env ps (args.map (exp mem.ε.length false)),loc:=[],mem:=mem} fun r=>r.1= .normal/\r.2.mem.ls l=some .ready/\M r.2)
  (h2:∀s,M s->μ C.gl (aU C) bd {s with mem:=s.mem.kH l .busy} fun r=>r.2.mem.ls l=some .busy/\match r.1 with
   | .normal=>Q (.bool true) (r.2.mem.kH l .ready)
   | .ret=>Q (.bool false) (r.2.mem.kH l (.done none))
   | .exit i=>Q (.bool false) (r.2.mem.kH l (.done (some i)))):∃v m',aU C (.fn (.yield l) [] []) args mem=some (v,m')/\Q v m':=by
 obtain⟨⟨e1,s1⟩,k1,rfl,k3,k4⟩:=h1;obtain⟨⟨e2,s2⟩,k5,k6,k7⟩:=h2 s1 k4;dsimp only at k3 k6 k7;cases e2 with
 |normal=>exact⟨_,_,by apply ur;simp only[body,round,hm,hl,if_true,k1,k3,k5,k6],k7⟩
 |ret=>exact⟨_,_,by apply ur;simp only[body,round,hm,hl,if_true,k1,k3,k5,k6],k7⟩
 |exit i=>exact⟨_,_,by apply ur;simp only[body,round,hm,hl,if_true,k1,k3,k5,k6],k7⟩
theorem XG(l:List AV)(i:Nat):ζ (l.map φ) i=φ (ζ l i):=by
 induction l generalizing i with
 |nil=>simp[ζ,φ]
 |cons a l ih=>cases i with
  |zero=>rfl
  |succ i=>simp only[ay,ζ,ih]
def tm:AC:= .ops [⟨(some 5),.alloc true [(.int .i64 0),(.int .i64 0),(.str []),(.int .i64 0)],none⟩,⟨none,.st 4 (.t 5) (.t 7),none⟩]
def tq:AC:= .block 1 (.ops [⟨(some 8),.ld false 1 (.t 2),none⟩,⟨(some 9),.ld true 4 (.t 5),none⟩,⟨(some 10),.bU true 4 [(.t 9)],none⟩,⟨(some 11),.app true 4 40 194 (.t 8) (.t 10),none⟩,⟨none,.st 1 (.t 2) (.t 11),none⟩])
def aM(B:List κ)(env:List AV)(c:χ)(l:List Tok)(st:LS):List κ:=B++[.cells [.list c (l.map Tok.ba)],.loop env [7] tm tq st]
theorem uk(B:List κ)(env:List AV)(c:χ)(l:List Tok)(st:LS):(aM B env c l st).length=B.length+2:=by simp[aM]
theorem Tok.PO(n:Nat)(k:Bool)(t:Tok):exp n k t.ba=t.ba:=by simp[Tok.ba,exp,bn]
theorem Tok.P2(t:Tok):Fx t.ba:=⟨rfl,rfl⟩
theorem aeJ(l:List Tok):(l.map Tok.ba).all (shaped true 4)=true:=by simp[mK,Tok.ba,shaped,Function.comp]
theorem agQ(B:List κ)(env:List AV)(h2:ζ env 2= .ν B.length 0)(c:χ)(l:List Tok)(ext:List κ)(hr:Row (B.length+2) (aM B env c l .ready++ext) 4 194 c l.length)(hl:l.length<1000000000)(t:Tok)(T:List Nat):
  ∃c' ext' T',aU (C u) (.fn (.yield (B.length+1)) [] []) [t.ba] {ε:=aM B env c l .ready++ext,θ:=T}=some (.bool true,{ε:=aM B env c' (l++[t]) .ready++ext',θ:=T'})∧
   Row (B.length+2) (aM B env c' (l++[t]) .ready++ext') 4 194 c' (l.length+1)/\∀i∈T',i∈T\/B.length<=i:=by
 have hy:=agW (C:=C u) (l:=B.length+1) (args:=[t.ba]) (mem:= {ε:=aM B env c l .ready++ext,θ:=T}) (env:=env) (ps:=[7]) (fL:=tm) (bd:=tq) (Ax:= .ready)
  (M:=fun s=>ζ s.env 2= .ν B.length 0/\ζ s.env 5= .ν (B.length+2+ext.length) 0/\s.mem= {ε:=aM B env c l .ready++(ext++[.cells [.int .i64 t.at_,.int .i64 t.kind,.str t.text,.int .i64 t.cZ]]),θ:=T})
  (Q:=fun v m=>v= .bool true/\∃c' ext' T',m= {ε:=aM B env c' (l++[t]) .ready++ext',θ:=T'}/\Row (B.length+2) (aM B env c' (l++[t]) .ready++ext') 4 194 c' (l.length+1)/\∀i∈T',i∈T\/B.length<=i)
  (by simp[aM]) rfl (by
   have hg:(aM B env c l .ready++ext)[B.length+1]?=some (.loop env [7] tm tq .ready):=by simp[aM]
   have hX:(aM B env c l .ready++ext).length=B.length+2+ext.length:=by simp[uk]
   rw[<-cj];generalize aM B env c l .ready++ext=X at*;have g1:∀z,(X++[z])[B.length+2+ext.length]?=some z:=fun z=>by rw[<-hX];simp
   have g2:∀z w,(X++[z]).set (B.length+2+ext.length) w=X++[w]:=fun z w=>by rw[<-hX];simp
   have g3:∀z,(X++[z])[B.length+1]?=some (.loop env [7] tm tq .ready):=fun z=>by rw[dX (oX hg)];exact hg
   simp[tm,va,Tok.ba,exp,bn,h2,hX,Mem.push,g1,g2,g3,Mem.put,Mem.φ,φ,bp,lo,Mem.ls]) ?_
 ·obtain⟨v,m',e,rfl,c',ext',T',rfl,k1,k2⟩:=hy;exact⟨c',ext',T',e,k1,k2⟩
 ·intro s ⟨k1,k2,k3⟩;have ky:Mem.kH {ε:=aM B env c l .ready++(ext++[.cells [.int .i64 t.at_,.int .i64 t.kind,.str t.text,.int .i64 t.cZ]]),θ:=T} (B.length+1) .busy= {ε:=aM B env c l .busy++(ext++[.cells [.int .i64 t.at_,.int .i64 t.kind,.str t.text,.int .i64 t.cZ]]),θ:=T}:=by simp[Mem.kH,aM]
  have gW:Row (aM B env c l .busy).length (aM B env c l .busy++(ext++[.cells [.int .i64 t.at_,.int .i64 t.kind,.str t.text,.int .i64 t.cZ]])) 4 194 c (l.map Tok.ba).length:=by rw[uk,<-cj,dd];exact Row.push (Row.swap hr (by simp[uk]) (by simp[uk])) _
  obtain⟨c',ext',fy,dw,-⟩:=qf (bytes:=40) gW (aeJ l) (show shaped true 4 t.ba=true by rfl) (show φ t.ba=t.ba by rfl) (by omega) (by simp;omega) (by simp;omega);rw[uk,dd]at dw;simp only[k3,ky];have g1:∀x,(aM B env c l .busy++x)[B.length]?=some (.cells [.list c (l.map Tok.ba)]):=fun x=>by simp[aM]
  have g2:(aM B env c l .busy++(ext++[.cells [.int .i64 t.at_,.int .i64 t.kind,.str t.text,.int .i64 t.cZ]]))[B.length+2+ext.length]?=some (.cells [.int .i64 t.at_,.int .i64 t.kind,.str t.text,.int .i64 t.cZ]):=by
   have:B.length+2+ext.length=(aM B env c l .busy++ext).length:=by simp[uk]
   rw[this,<-cj];simp
  have g3:∀x,(aM B env c l .busy++x).set B.length (.cells [.list c' (l.map Tok.ba++[t.ba])])=aM B env c' (l++[t]) .busy++x:=fun x=>by simp[aM]
  have g4:∀x st,Mem.kH {ε:=aM B env c' (l++[t]) .busy++x,θ:=st} (B.length+1) .ready= {ε:=aM B env c' (l++[t]) .ready++x,θ:=st}:=fun x st=>by simp[Mem.kH,aM]
  have g5:∀x st,Mem.ls {ε:=aM B env c' (l++[t]) .busy++x,θ:=st} (B.length+1)=some .busy:=fun x st=>by simp[Mem.ls,aM]
  have g6:cW (l.map Tok.ba++[t.ba])=l.map Tok.ba++[t.ba]:=by simp[fO,Function.comp,Tok.ba,φ,cW]
  have eu:shaped true 4 (.agg [.int .i64 t.at_,.int .i64 t.kind,.str t.text,.int .i64 t.cZ])=true:=rfl;simp only[Tok.ba]at fy g3 g6;refine μ.done .normal (fun s=>∃T',s.mem= {ε:=aM B env c' (l++[t]) .busy++ext',θ:=T'}/\∀i∈T',i∈T\/B.length<=i) (by
   simp[tq,k1,k2,g1,g2,eu,Mem.φ,φ,cW,Tok.ba,fy,Mem.put]
   simp only[g6,g3];refine⟨_,⟨trivial,rfl⟩,fun i hi=>?_⟩;split at hi
   ·exact .inl hi
   ·exact(List.mem_cons.1 hi).elim (fun h=> .inr (by omega)) .inl) fun s' h=>?_
  obtain⟨T',h1,h2⟩:=h;refine⟨by rw[h1];exact g5 _ _,by trivial,c',ext',T',by rw[h1,g4],Row.swap dw (by simp[uk]) (by simp[uk]),h2⟩
theorem XM{σ:Type}(g:σ->Tok->σ)(l:List Tok)(x:σ):rU (fun x t=>(g x t,true)) l x=l.foldl g x:=by
 induction l generalizing x with
 |nil=>rfl
 |cons a l ih=>simp[rU,ih]
theorem Xl(l x:List Tok):l.foldl (fun l t=>l++[t]) x=x++l:=by
 induction l generalizing x with
 |nil=>simp
 |cons a l ih=>simp[ih]
theorem MX(s:List Nat):(cY s).length<=s.length:=by
 have:∀k n (l:List Nat),(ru k n l).length<=l.length:=by
  intro k;induction k with
  |zero=>intro n l;simp[ru]
  |succ k ih=>
   intro n l
   simp only[ru];split
   ·simp
   ·rename_i h;split
    ·simp;omega
    ·have:=ih (n+bO false l+(dA (n+bO false l) (l.drop (bO false l))).text.length) ((l.drop (bO false l)).drop (dA (n+bO false l) (l.drop (bO false l))).text.length);cases hr:l.drop (bO false l)with
     |nil=>have:=congrArg nr hr;simp at this;omega
     |cons b r=>
      have hp:=Dn (n+bO false l) b r
      rw[hr]at this;simp only[List.length_cons,kK]at this⊢;have:=congrArg nr hr;simp at this;omega
 exact this _ _ _
theorem WV(c:χ)(n:Nat):(c.exp n true).exp n true=c.exp n true:=by
 cases c with
 |own t=>by_cases h:t<n<;>simp[χ.exp,h]
 |_=>rfl
theorem af2(X:List κ)(L:List AV)(hL:bn (X.length+1) true L=L)(T:List Nat):∀c,(∀i∈T,X.length<=i)→
  lJ (X.length+1) T (X++[.cells [.list c L]])=X++[.cells [.list (if X.length∈T then c.exp (X.length+1) true else c) L]]:=by
 induction T with
 |nil=>intro c _;simp[lJ]
 |cons i T ih=>
  intro c h
  simp only[lJ];by_cases hi:i=X.length
  ·subst hi;simp only[s8 (bF _),Nat.sub_self,vp,κ.Aq,ay,aA,exp,hL,List.set_append_right _ _ (bF _),List.set_cons_zero];rw[ih _ fun j hj=>h j (by simp[hj])];by_cases hm:X.length∈T<;>simp[hm,WV]
  ·have h1:(X++[κ.cells [.list c L]])[i]?=none:=gZ (by have:=h i (by simp);simp;omega);rw[h1];rw[ih _ fun j hj=>h j (by simp[hj])];simp[Ne.symm hi]
theorem Vo(X:List κ)(L:List AV)(hL:bn (X.length+1) true L=L)(fz:bp X.length L=true)(T:List Nat)(c:χ)(hT:∀i∈T,X.length<=i)(bs Y:List κ)(h1:Y.length=X.length+1):
  ∃c2,Mem.back {ε:=Y,θ:=[]} {ε:=X++[.cells [.list c L]]++bs,θ:=T}= {ε:=X++[.cells [.list c2 L]],θ:=[]}/\c2.exp 0 false=c.exp 0 false:=by
 refine⟨if X.length∈T then c.exp (X.length+1) true else c,?_,by split<;>simp[Ju]⟩;have h2:(X++[κ.cells [.list c L]]++bs).take (X.length+1)=X++[κ.cells [.list c L]]:=by rw[List.take_append_of_le_length (by simp)];exact dY (by simp)
 simp only[Mem.back,h1,h2,af2 X L hL T c hT,cI,Mem.mk.injEq,true_and];rw[List.filter_eq_nil_iff];intro i hi;by_cases he:i=X.length
 ·subst he;simp only[s8 (bF _),Nat.sub_self,vp,hi,if_true,κ.clean,bp,lo,fz];cases c with
  |own t=>
   by_cases ht:t<X.length+1
   ·simp[χ.exp,ht,χ.lo];omega
   ·simp[χ.exp,ht,χ.lo]
  |_=>simp[χ.exp,χ.lo]
 ·have h1:∀w:κ,(X++[w])[i]?=none:=fun w=>gZ (by have:=hT i hi;simp;omega);simp[h1]
theorem f225(s:List Nat)(hs:cX s)(hl:s.length<1000000000)(m:Mem):kf u 225 [.list .nil [],.fn (.func 201) [] [.ref [.str s]]] m=some (.list (if cY s=[]then .nil else .any) ((cY s).map Tok.ba),m):=by
 have Tu:=fun(env:List AV) (h2:ζ env 2= .ν m.ε.length 0)=>f201 (u:=u) (σ:=List Tok) (I:=fun l bs=>∃c ext,bs=aM m.ε env c l .ready++ext/\Row (m.ε.length+2) bs 4 194 c l.length/\(l=[]->c= .nil)) (D:=fun _ _=>False) (f:=fun l t=>(l++[t],true)) (N:=m.ε.length) (l:=m.ε.length+1)
  s hs (by omega) (fun l bs ⟨c,ext,h,_⟩=>by rw[h,List.length_append,uk];omega) (cnt:=nr) (fun l t=>by simp)
  (fun l bs T t ⟨c,ext,h,hr,hn⟩ hc=>by
   subst h
   obtain⟨c',ext',T',k1,k2,k3⟩:=agQ (u:=u) m.ε env h2 c l ext hr (by omega) t T;exact⟨_,T',k1,by rw[if_pos rfl];exact⟨c',ext',rfl,by simpa using k2,fun h=>by simp at h⟩,k3⟩) [] (aM m.ε env .nil [] .ready) [] ⟨.nil,[],by simp,Row.nil,fun _=>rfl⟩ rfl
 rw[XM,Xl,cI]at Tu;refine bD (g:=Fv) rfl rfl rfl ?_;have dL:[AV.list .nil [],AV.fn (.func 201) [] [.ref [.str s]]].map (exp m.ε.length false)=[AV.list .nil [],AV.fn (.func 201) [] [.ref [.str s]]]:=by simp[exp,bn,Fn.below,χ.exp]
 rw[dL];simp only[Fv,Ov];refine ω (fun st=>ζ st.env 1= .fn (.func 201) [] [.ref [.str s]]/\ζ st.env 2= .ν m.ε.length 0/\st.mem= {ε:=m.ε++[.cells [.list .nil []]],θ:=[]}) (by simp[Mem.push,Mem.φ,φ,cW]) fun s1 ⟨h1,h2,h3⟩=>?_;have Kg:∀n k,bn n k ((cY s).map Tok.ba)=(cY s).map Tok.ba:=fun n k=>by rw[fo,List.map_map];exact List.map_congr_left fun t _=>Tok.PO n k t
 refine bc (fun st=>ζ st.env 2= .ν m.ε.length 0/\∃c,st.mem= {ε:=m.ε++[.cells [.list c ((cY s).map Tok.ba)]],θ:=[]}/\c.exp 0 false=if cY s=[]then .nil else .any) ?_ fun s2 ⟨h1,c,h2,h3⟩=>?_
 ·refine ω (fun st=>ζ st.env 6= .fn (.func 201) [] [.ref [.str s]]/\ζ st.env 2= .ν m.ε.length 0/\st.mem= {ε:=m.ε++[.cells [.list .nil []]],θ:=[]}) (by simp[h1,h2,h3]) fun s1 ⟨h1,h2,h3⟩=>?_;refine μ.block ?_;obtain⟨pc,T',e,⟨c,ext,rfl,hr,hn⟩|⟨⟨⟩⟩,hT⟩:=Tu (s1.env.map φ) (by rw[XG];exact congrArg φ h2);have eR:∀M:Mem,M.φ=φ:=fun _=>rfl;have e0:aM m.ε (s1.env.map φ) .nil [] .ready=m.ε++[.cells [.list .nil []]]++[.loop (s1.env.map φ) [7] tm tq .ready]:=by simp[aM]
  rw[e0]at e;have Zx:(m.ε++[κ.cells [.list .nil []]]).length=m.ε.length+1:=by simp
  have GR:(aM m.ε (s1.env.map φ) c (cY s) .ready++ext)[m.ε.length+1]?=some (.loop (s1.env.map φ) [7] tm tq .ready):=by simp[aM]
  obtain⟨c2,hb,n9⟩:=Vo m.ε ((cY s).map Tok.ba) (Kg _ _) (by simp[nN,mK,Function.comp,Tok.ba,lo,bp]) T' c (fun i hi=>(hT i hi).elim (fun h=>by cases h) id) (.loop (s1.env.map φ) [7] tm tq .ready::ext) (m.ε++[.cells [.list .nil []]]) (by simp);have e1:aM m.ε (s1.env.map φ) c (cY s) .ready++ext=m.ε++[.cells [.list c ((cY s).map Tok.ba)]]++(.loop (s1.env.map φ) [7] tm tq .ready::ext):=by simp[aM]
  rw[<-e1]at hb;refine⟨(.normal,{s1 with mem:= {ε:=m.ε++[.cells [.list c2 ((cY s).map Tok.ba)]],θ:=[]}}),?_,?_⟩
  ·simp only[exec,dQ,h1,AV.CA,Option.bind_some,h3,Zx,eR];rw[<-tm,<-tq,e];simp only[GR,hb]
  ·refine .inr ⟨by simp,.inl ⟨rfl,h2,c2,rfl,?_⟩⟩;rw[n9];by_cases h0:cY s=[]
   ·rw[hn h0,if_pos h0];rfl
   ·rw[if_neg h0];rcases hr with⟨_,hc⟩|⟨t,rfl,_,_⟩
    ·exact absurd (List.eq_nil_of_length_eq_zero hc) h0
    ·rfl
 ·simp[h1,h2];have:=(Dv.list c (bB.of Tok.ba (cY s) fun t _=>Tok.P2 t)).ai (m.ε++[.cells [.list c ((cY s).map Tok.ba)]]) m.ε.length 8;rw[h3]at this;exact this
theorem f187(s:List Nat)(hs:cX s)(hl:s.length<1000000000)(m:Mem):kf u 187 [.fn (.func 201) [] [.ref [.str s]]] m=some (.list (if cY s=[]then .nil else .any) ((cY s).map Tok.ba),m):=by have q:=fun m=>f225 (u:=u) s hs hl m;refine bD (g:=E_) rfl rfl rfl ?_;simp[E_,Ob,exp,bn,Fn.below,q];have h:=(Dv.list (if cY s=[]then .nil else .any) (bB.of Tok.ba (cY s) fun t _=>Tok.P2 t)).ai m.ε m.ε.length 8;rw[fb (by split<;>simp[aJ])]at h;exact h
theorem I_{t:Tok}(h:t.cZ<0):t.cut=t.text:=if_pos h
end Go.ah.Tz
