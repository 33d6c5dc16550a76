import Derived.Test.YtiigojkfojnedaaGreatDoorSKw
set_option linter.all false
set_option maxRecDepth 100000
set_option maxHeartbeats 8000000
open Bool renaming and_false->al',true_and->rr,and_true->al6
open List renaming getElem_cons_zero->kJ,map_map->cT,map_congr_left->de,map_cons->az,map_nil->aJ,length_map->cg,getElem?_map->lB,getElem?_eq_getElem->dn,take_of_length_le->fo,getElem_mem->c_,length_cons->cD
open Go.IntKind renaming wrap->bC
open List.cons renaming injEq->u9
namespace Go.Θ
def ie{α β:Type}(q:α->β->Bool):List α->List β->Bool
 |[],[]=>true
 |a::l,b::l'=>q a b&&ie q l l'
 |_,_=>false
theorem Qp{α β:Type}{q:α->β->Bool}{l:List α}{l':List β}(h:l.length≠l'.length):ie q l l'=false:=by
 induction l generalizing l' with
 |nil=>cases l' with
  |nil=>simp at h
  |cons b l'=>rfl
 |cons a l ih=>cases l' with
  |nil=>rfl
  |cons b l'=>simp only[ie,ih (by simpa using h),al']
theorem Qq{α β:Type}{q:α->β->Bool}{l:List α}{l':List β}(i:Nat)(h:i<l.length)(h':i<l'.length)(hq:q l[i] l'[i]=false):ie q l l'=false:=by
 induction l generalizing l' i with
 |nil=>simp at h
 |cons a l ih=>cases l' with
  |nil=>rfl
  |cons b l'=>cases i with
   |zero=>simp only[kJ]at hq;simp only[ie,hq,Bool.false_and]
   |succ i=>simp only[List.getElem_cons_succ]at hq;simp only[ie,ih i (by simpa using h) (by simpa using h') hq,al']
theorem Kq{α β:Type}{q:α->β->Bool}{l:List α}{l':List β}(hl:l.length=l'.length)(h:∀i (h:i<l.length) (h':i<l'.length),q l[i] l'[i]=true):ie q l l'=true:=by
 induction l generalizing l' with
 |nil=>cases l' with
  |nil=>rfl
  |cons b l'=>simp at hl
 |cons a l ih=>cases l' with
  |nil=>simp at hl
  |cons b l'=>
   have h0:=h 0 (by simp) (by simp)
   simp only[kJ]at h0;simp only[ie,h0,rr];exact ih (by simpa using hl) fun i h1 h2=>by have:=h (i+1) (by simpa using h1) (by simpa using h2);simpa using this
end Go.Θ
namespace Go.Θ.Tz
open Go.Θ
variable{u:Nat}
attribute [local simp] exec dY dP eX aI dw fA eN aK fL bQ iu iE iM jd AV.cells newVar iX rd wr gT single dk cE e_ ew κ cK RV.get cL fT kz
def SZ(sz:Nat)(Z:List AV):AC:=(.seq (.ops [⟨(some 18),.bin .lss (.t 17) (.t 16),none⟩]) (.seq (.cond (.t 18) .skip (.exit 0)) (.seq (.block 1 (.seq (.ops [⟨(some 19),.mv (.t 17),none⟩,⟨(some 20),.ia sz (.t 15) (.t 17),none⟩,⟨(some 21),.ld true sz (.t 20),none⟩,⟨(some 8),.alloc false Z,none⟩,⟨(some 7),.mv (.t 19),none⟩,⟨none,.st sz (.t 8) (.t 21),none⟩]) (.seq (.ops [⟨(some 22),.mv (.t 1),none⟩,⟨(some 23),.mv (.t 7),none⟩,⟨(some 24),.ia sz (.t 22) (.t 23),none⟩,⟨(some 25),.ld true sz (.t 24),none⟩,⟨(some 9),.alloc false Z,none⟩,⟨none,.st sz (.t 9) (.t 25),none⟩]) (.seq (.ops [⟨(some 26),.mv (.t 2),none⟩,⟨(some 27),.ld true sz (.t 8),none⟩,⟨(some 28),.ld true sz (.t 9),none⟩,⟨(some 29),.call (.t 26) [(.t 27),(.t 28)],none⟩,⟨(some 30),.un .not (.t 29),none⟩]) (.cond (.t 30) (.seq (.ops [⟨(some 6),.mv (.c (.bool false)),none⟩]) .ret) .skip))))) (.ops [⟨(some 31),.bin .add (.t 17) (.c (.n 1)),none⟩,⟨(some 17),.mv (.t 31),none⟩]))))
def SX(sz:Nat)(Z:List AV):AC:=(.seq (.ops [⟨(some 6),.mv (.c (.bool false)),none⟩]) (.seq (.seq (.ops [⟨(some 10),.mv (.t 0),none⟩,⟨(some 11),.len (.t 10),none⟩,⟨(some 12),.mv (.t 1),none⟩,⟨(some 13),.len (.t 12),none⟩,⟨(some 14),.bin .neq (.t 11) (.t 13),none⟩]) (.cond (.t 14) (.seq (.ops [⟨(some 6),.mv (.c (.bool false)),none⟩]) .ret) .skip)) (.seq (.seq (.ops [⟨(some 15),.mv (.t 0),none⟩,⟨(some 16),.len (.t 15),none⟩,⟨(some 17),.mv (.c (.n 0)),none⟩]) (.block 0 (.loop (SZ sz Z)))) (.seq (.ops [⟨(some 6),.mv (.c (.bool true)),none⟩]) .ret))))
def VD(f:Nat):AC:=(.seq (.ops [⟨(some 2),.box false 4 (.t 0),none⟩,⟨(some 3),.box false 4 (.t 1),none⟩,⟨(some 4),.mv (.c (.bool false)),none⟩]) (.seq (.ops [⟨(some 5),.fa 0 (.t 2),none⟩,⟨(some 6),.ld false 1 (.t 5),none⟩,⟨(some 7),.fa 0 (.t 3),none⟩,⟨(some 8),.ld false 1 (.t 7),none⟩,⟨(some 9),.bin .eql (.t 6) (.t 8),none⟩,⟨(some 10),.mv (.t 9),none⟩,⟨(some 11),.fa 1 (.t 2),some (10,true)⟩,⟨(some 12),.ld false 1 (.t 11),some (10,true)⟩,⟨(some 13),.fa 1 (.t 3),some (10,true)⟩,⟨(some 14),.ld false 1 (.t 13),some (10,true)⟩,⟨(some 15),.bin .eql (.t 12) (.t 14),some (10,true)⟩,⟨(some 16),.pick (.t 10) (.t 15) (.c (.bool false)),none⟩,⟨(some 17),.mv (.t 16),none⟩,⟨(some 18),.fa 2 (.t 2),some (17,true)⟩,⟨(some 19),.ld false 1 (.t 18),some (17,true)⟩,⟨(some 20),.fa 2 (.t 3),some (17,true)⟩,⟨(some 21),.ld false 1 (.t 20),some (17,true)⟩,⟨(some 22),.bin .eql (.t 19) (.t 21),some (17,true)⟩,⟨(some 23),.pick (.t 17) (.t 22) (.c (.bool false)),none⟩,⟨(some 24),.mv (.t 23),none⟩,⟨(some 25),.fa 3 (.t 2),some (24,true)⟩,⟨(some 26),.ld false 1 (.t 25),some (24,true)⟩,⟨(some 27),.fa 3 (.t 3),some (24,true)⟩,⟨(some 28),.ld false 1 (.t 27),some (24,true)⟩,⟨(some 29),.call (.c (.fn (.func 142) [] [])) [(.t 26),(.t 28),(.c (.fn (.func f) [] []))],some (24,true)⟩,⟨(some 30),.pick (.t 24) (.t 29) (.c (.bool false)),none⟩,⟨(some 4),.mv (.t 30),none⟩]) .ret))
def W_(f:Nat):AC:=(.seq (.ops [⟨(some 2),.box false 2 (.t 0),none⟩,⟨(some 3),.box false 2 (.t 1),none⟩,⟨(some 4),.mv (.c (.bool false)),none⟩]) (.seq (.ops [⟨(some 5),.fa 0 (.t 2),none⟩,⟨(some 6),.ld false 1 (.t 5),none⟩,⟨(some 7),.fa 0 (.t 3),none⟩,⟨(some 8),.ld false 1 (.t 7),none⟩,⟨(some 9),.bin .eql (.t 6) (.t 8),none⟩,⟨(some 10),.mv (.t 9),none⟩,⟨(some 11),.fa 1 (.t 2),some (10,true)⟩,⟨(some 12),.ld false 1 (.t 11),some (10,true)⟩,⟨(some 13),.fa 1 (.t 3),some (10,true)⟩,⟨(some 14),.ld false 1 (.t 13),some (10,true)⟩,⟨(some 15),.call (.c (.fn (.func 142) [] [])) [(.t 12),(.t 14),(.c (.fn (.func f) [] []))],some (10,true)⟩,⟨(some 16),.pick (.t 10) (.t 15) (.c (.bool false)),none⟩,⟨(some 4),.mv (.t 16),none⟩]) .ret))
def X_(f:Nat):AC:=(.seq (.ops [⟨(some 4),.mv (.c (.bool false)),none⟩]) (.seq (.ops [⟨(some 5),.mv (.t 0),none⟩,⟨(some 6),.mv (.t 1),none⟩,⟨(some 7),.call (.c (.fn (.func 138) [] [])) [(.t 5),(.t 6),(.c (.fn (.func f) [] []))],none⟩,⟨(some 4),.mv (.t 7),none⟩]) .ret))
theorem C5{f sz F:Nat}{Z:List AV}(hp:(C u).gQ f=none)(hf:(C u).fs f=some ⟨32,[.tmp 6],SX sz Z⟩)(hk:(C u).bf f=false)(hZ:Z.length=sz){α β:Type}(A:α->List AV)(A':β->List AV)(hA:∀x,(A x).length=sz)(Mv:∀x,(A' x).length=sz)(xs:List α)(ys:List β)(hx:∀x∈xs,Fx (.agg (A x)))(hy:∀y∈ys,Fx (.agg (A' y)))
  (q:α->β->Bool) (hq:∀x∈xs,∀y∈ys,∀m,ab (C u) (.fn (.func F) [] []) [.agg (A x),.agg (A' y)] m=some (.bool (q x y),m)) (c c':ρ) (hl:xs.length<1000000000000) (iH:ys.length<1000000000000) (m:Mem):
  ab (C u) (.fn (.func f) [] []) [.list c (xs.map fun x=> .agg (A x)),.list c' (ys.map fun y=> .agg (A' y)),.fn (.func F) [] []] m=some (.bool (ie q xs ys),m):=by
 refine dI hp hf hk ?_;have e1:aX m.ε.length false (xs.map fun x=>AV.agg (A x))=xs.map fun x=>AV.agg (A x):=by rw[fe,cT];exact de fun x h=>(hx x h).qE _
 have e2:aX m.ε.length false (ys.map fun x=>AV.agg (A' x))=ys.map fun x=>AV.agg (A' x):=by rw[fe,cT];exact de fun x h=>(hy x h).qE _
 simp only[az,aJ,exp,e1,e2,Fn.below,if_true,aX];generalize c.exp m.ε.length false=c;generalize c'.exp m.ε.length false=c';have l1:(xs.map fun x=>AV.agg (A x)).length=xs.length:=cg _;have l2:(ys.map fun x=>AV.agg (A' x)).length=ys.length:=cg _;have g1:∀i (h:i<xs.length),(xs.map fun x=>AV.agg (A x))[i]?=some (.agg (A xs[i])):=fun i h=>by rw[lB,dn h];rfl
 have g2:∀i (h:i<ys.length),(ys.map fun x=>AV.agg (A' x))[i]?=some (.agg (A' ys[i])):=fun i h=>by rw[lB,dn h];rfl
 generalize(xs.map fun x=>AV.agg (A x))=X at l1 g1;generalize(ys.map fun x=>AV.agg (A' x))=Y at l2 g2;let K:St->Prop:=fun st=>(st.e 0= .list c X/\st.e 1= .list c' Y/\st.e 2= .fn (.func F) [] [])/\st.mem= {ε:=m.ε,η:=[]};unfold SX;refine Δ (K) (by simp[K]) fun s1 ⟨⟨h0,h1,h2⟩,hm⟩=>?_;by_cases hlen:xs.length=ys.length
 ·refine Δ (K) (by simp[K,h0,h1,h2,hm,l1,l2,hlen]) fun s1 ⟨⟨h0,h1,h2⟩,hm⟩=>?_;refine bJ (fun z=>z.mem= {ε:=m.ε,η:=[]}/\ie q xs ys=true) ?_ fun z ⟨hm,ht⟩=>κ.done .ret (fun z=>z.mem= {ε:=m.ε,η:=[]}/\z.e 6= .bool true) (by simp[hm]) fun z ⟨z1,z2⟩=>⟨by simp,⟨[],by simp[z1]⟩,[.bool true],by simp[z2],by rw[ht];simp⟩;refine Δ (fun z=>K z/\z.e 15= .list c X/\z.e 16= .n xs.length/\z.e 17= .n 0) (by simp[K,h0,h1,h2,hm,l1]) fun z ⟨⟨⟨h0,h1,h2⟩,hm⟩,mM,l8,nB⟩=>?_;let I:Nat->St->Prop:=fun i z=>(K z/\z.e 15= .list c X/\z.e 16= .n xs.length/\z.e 17= .n (i:Int))/\∀j (h:j<xs.length) (h':j<ys.length),j<i->q xs[j] ys[j]=true;refine κ.block (κ.kp (I:=I) xs.length ⟨⟨⟨⟨h0,h1,h2⟩,hm⟩,mM,l8,nB⟩,fun j _ _ h=>by omega⟩ fun i z hi ⟨⟨⟨⟨h0,h1,h2⟩,hm⟩,mM,l8,nB⟩,Eg⟩=>?_);unfold SZ;by_cases gN:i<xs.length
  ·have ti:i<ys.length:=by omega
   have ur:(i:Int)<xs.length:=by omega
   have Bt:(i:Int)<ys.length:=by omega
   have kB:bC .i64 ((i:Int)+1)=(i:Int)+1:=wrap_i64 (by omega) (by omega);have e1:=g1 i gN;have e2:=g2 i ti;have a1:=hA xs[i];have a2:=Mv ys[i];have t1:(A xs[i]).take sz=A xs[i]:=fo (by omega);have t2:(A' ys[i]).take sz=A' ys[i]:=fo (by omega);have d1:Z.drop sz=[]:=List.drop_eq_nil_of_le (by omega);have qq:=hq xs[i] (c_ gN) ys[i] (c_ ti);have e3:X[i]'(by omega)= .agg (A xs[i]):=by rw[dn (by omega)]at e1;exact Option.some.inj e1
   have e4:Y[i]'(by omega)= .agg (A' ys[i]):=by rw[dn (by omega)]at e2;exact Option.some.inj e2
   generalize hX:xs[i]=xi at*;generalize hY:ys[i]=yi at*;refine Δ (fun z=>(K z/\z.e 15= .list c X/\z.e 16= .n xs.length/\z.e 17= .n (i:Int))/\z.e 18= .bool true) (by simp[K,h0,h1,h2,hm,mM,l8,nB,ur,gN]) fun z ⟨⟨⟨⟨h0,h1,h2⟩,hm⟩,mM,l8,nB⟩,bo⟩=>?_;refine κ.go (s':=z) (by simp[bo]) ?_;cases hb:q xi yi with
   |true=>
    refine κ.done .normal (fun z=>K z/\z.e 15= .list c X/\z.e 16= .n xs.length/\z.e 17= .n ((i:Int)+1)) (by simp[K,h0,h1,h2,hm,mM,l8,nB,ur,Bt,gN,ti,l1,l2,e1,e2,e3,e4,a1,a2,t1,t2,d1,hZ,qq,hb,kB]) fun z ⟨z1,z2,z3,z4⟩=> .inl ⟨rfl,gN,⟨z1,z2,z3,by rw[z4];simp⟩,fun j h h' hj=>?_⟩
    by_cases me:j=i
    ·subst me;rw[hX,hY];exact hb
    ·exact Eg j h h' (by omega)
   |false=>
    refine κ.done .ret (fun z=>z.mem= {ε:=m.ε,η:=[]}/\z.e 6= .bool false) (by simp[K,h0,h1,h2,hm,mM,l8,nB,ur,Bt,gN,ti,l1,l2,e1,e2,e3,e4,a1,a2,t1,t2,d1,hZ,qq,hb,kB]) fun z ⟨z1,z2⟩=> .inr ⟨by simp,.inr ⟨by simp,.inr ⟨by simp,by simp,⟨[],by simp[z1]⟩,[.bool false],by simp[z2],?_⟩⟩⟩
    rw[Qq i gN ti (by rw[hX,hY];exact hb)];rfl
  ·have ur:¬(i:Int)<xs.length:=by omega
   obtain rfl:i=xs.length:=by omega
   exact κ.done (.exit 0) (fun z=>z.mem= {ε:=m.ε,η:=[]}) (by simp[hm,l8,nB]) fun z hz=> .inr ⟨by simp,.inl ⟨rfl,.inl ⟨rfl,hz,Kq hlen fun j h h'=>Eg j h h' h⟩⟩⟩
 ·have φ:¬(xs.length:Int)=ys.length:=by omega
  rw[Qp hlen];exact κ.seq (M:=fun _=>False) (κ.done .ret (fun z=>z.mem= {ε:=m.ε,η:=[]}/\z.e 6= .bool false) (by simp[h0,h1,h2,hm,l1,l2,hlen,φ,ff φ,bne_true φ]) fun z ⟨z1,z2⟩=> .inr ⟨by simp,by simp,⟨[],by simp[z1]⟩,[.bool false],by simp[z2],rfl⟩) fun z h=>h.elim
end Go.Θ.Tz
namespace Go.Θ
mutual
def ζ.eqv:ζ->ζ->Bool
 | .mk k n s _ l,.mk k' n' s' _ l'=>k==k'&&(n==n'&&(s==s'&&ζ.lJ l l'))
def ζ.lJ:List ζ->List ζ->Bool
 |[],[]=>true
 |a::l,b::l'=>a.eqv b&&ζ.lJ l l'
 |_,_=>false
end
theorem ζ.AU(l l':List ζ):ζ.lJ l l'=ie ζ.eqv l l':=by
 induction l generalizing l' with
 |nil=>cases l'<;>rfl
 |cons a l ih=>cases l' with
  |nil=>rfl
  |cons b l'=>simp only[ζ.lJ,ie,ih]
def ξ.eqv(p q:ξ):Bool:=p.name==q.name&&ie ζ.eqv p.ix q.ix
def ak.eqv(p q:ak):Bool:=p.name==q.name&&p.size==q.size
structure ζ.mE (x:ζ):Prop where
 fx:Fx x.av
 cnt:x.cnt<1000000000000
structure ξ.mE (p:ξ):Prop where
 fx:Fx p.av
 len:p.ix.length<1000000000000
 pn:∀x∈p.ix,x.mE
end Go.Θ
namespace Go.Θ.Tz
open Go.Θ
variable{u:Nat}
attribute [local simp] exec dY dP eX aI dw fA eN aK fL bQ iu iE iM jd AV.cells newVar iX rd wr gT single dk cE e_ ew κ cK RV.get cL fT kz
theorem ζ.Tk{k n:Int}{s:List Nat}{c:ρ}{l:List ζ}(h:Fx (ζ.mk k n s c l).av):∀y∈l,Fx y.av:=by intro y hy;have h1:=h.1;have h2:=h.2;simp only[ζ.av,pf,kW,al6,rr]at h1;simp only[ζ.av,eB,jJ,AV.agg.injEq,u9,and_true,true_and,AV.list.injEq]at h2;rw[ζ.eo]at h1 h2;rw[Pf,List.all_eq_true]at h1;rw[AR]at h2;refine⟨h1 _ (List.mem_map.2 ⟨y,hy,rfl⟩),?_⟩;obtain⟨j,hj,rfl⟩:=List.getElem_of_mem hy;have:=congrArg (fun k=>k[j]?) h2.2;simpa[hj]using this
theorem sIx{f:Nat}(hp:(C u).gQ f=none)(hf:(C u).fs f=some ⟨31,[.tmp 4],VD f⟩)(hk:(C u).bf f=false)(x:ζ):Fx x.av->x.cnt<1000000000000->∀y:ζ,Fx y.av->y.cnt<1000000000000->∀m,ab (C u) (.fn (.func f) [] []) [x.av,y.av] m=some (.bool (x.eqv y),m):=by
 refine ζ.jR (Q:=fun x=>Fx x.av->x.cnt<1000000000000->∀y:ζ,Fx y.av->y.cnt<1000000000000->∀m,ab (C u) (.fn (.func f) [] []) [x.av,y.av] m=some (.bool (x.eqv y),m)) (fun k n s c l ih hx hxc y hy hyc m=>?_) x;obtain⟨k',n',s',c',l'⟩:=y;have k1:=ζ.Tk hx;have k2:=ζ.Tk hy;simp only[ζ.cnt]at hxc hyc;have m0:=ζ.AQ l;have n0:=ζ.AQ l';have m1:l.length<1000000000000:=by omega
 have n1:l'.length<1000000000000:=by omega
 have m2:∀y∈l,y.cnt<1000000000000:=fun y hy=>by have:=ζ.AP hy;omega
 have n2:∀y∈l',y.cnt<1000000000000:=fun y hy=>by have:=ζ.AP hy;omega
 have e:=fun c c'=>C5 (u:=u) (f:=142) (sz:=4) (F:=f) (Z:=[.n 0,.n 0,.str [],.list .nil []]) rfl rfl rfl rfl ζ.four ζ.four ζ.ft ζ.ft l l' (fun x hx=>by have:=k1 x hx;rwa[ζ.fD]at this) (fun x hx=>by have:=k2 x hx;rwa[ζ.fD]at this) ζ.eqv (fun a ha b hb m=>by
  have:=ih a ha (k1 a ha) (m2 a ha) b (k2 b hb) (n2 b hb) m
  rwa[ζ.fD,ζ.fD]at this) c c' m1 n1
 have a1:(l.map fun x:ζ=>AV.agg x.four)=ζ.χ l:=by rw[ζ.eo];exact de fun x _=>(ζ.fD x).symm
 have a2:(l'.map fun x:ζ=>AV.agg x.four)=ζ.χ l':=by rw[ζ.eo];exact de fun x _=>(ζ.fD x).symm
 rw[a1,a2]at e;refine dI hp hf hk ?_;simp only[az,aJ,hx.qE,hy.qE];simp only[ζ.av,ζ.eqv,ζ.AU];generalize ζ.χ l=X at e;generalize ζ.χ l'=Y at e;unfold VD;by_cases eI:k=k'
 ·by_cases xw:n=n'
  ·by_cases vS:s=s'
   ·cases hb:ie ζ.eqv l l'<;>simp[eI,xw,vS,e,hb]
   ·have:(s==s')=false:=by simpa using vS
    simp[eI,xw,vS,this]
  ·simp[eI,ff xw]
 ·simp[ff eI]
theorem f86(x:ζ)(hx:Fx x.av)(hc:x.cnt<1000000000000)(y:ζ)(hy:Fx y.av)(hd:y.cnt<1000000000000)(m:Mem):kf u 86 [x.av,y.av] m=some (.bool (x.eqv y),m):=sIx rfl rfl rfl x hx hc y hy hd m
theorem Vy(l:List ζ):(l.map fun x:ζ=>AV.agg x.four)=l.map ζ.av:=de fun x _=>(ζ.fD x).symm
theorem aa_{F:Nat}(h:∀(x:ζ),x.mE->∀y:ζ,y.mE->∀m,ab (C u) (.fn (.func F) [] []) [x.av,y.av] m=some (.bool (x.eqv y),m))(l l':List ζ)(hl:∀x∈l,x.mE)(iH:∀x∈l',x.mE)(m1:l.length<1000000000000)(n1:l'.length<1000000000000)(c c':ρ)(m:Mem):
  kf u 142 [.list c (l.map ζ.av),.list c' (l'.map ζ.av),.fn (.func F) [] []] m=some (.bool (ie ζ.eqv l l'),m):=by
 have:=C5 (u:=u) (f:=142) (sz:=4) (F:=F) (Z:=[.n 0,.n 0,.str [],.list .nil []]) rfl rfl rfl rfl ζ.four ζ.four ζ.ft ζ.ft l l' (fun x hx=>by have:=(hl x hx).fx;rwa[ζ.fD]at this) (fun x hx=>by have:=(iH x hx).fx;rwa[ζ.fD]at this) ζ.eqv (fun a ha b hb m=>by
  have:=h a (hl a ha) b (iH b hb) m
  rwa[ζ.fD,ζ.fD]at this) c c' m1 n1 m
 rw[Vy,Vy]at this;exact this
theorem sPl{f F:Nat}(hp:(C u).gQ f=none)(hf:(C u).fs f=some ⟨17,[.tmp 4],W_ F⟩)(hk:(C u).bf f=false)(h:∀(x:ζ),x.mE->∀y:ζ,y.mE->∀m,ab (C u) (.fn (.func F) [] []) [x.av,y.av] m=some (.bool (x.eqv y),m))(p q:ξ)(xx:p.mE)(NR:q.mE)(m:Mem):ab (C u) (.fn (.func f) [] []) [p.av,q.av] m=some (.bool (p.eqv q),m):=by
 have e:=fun c c'=>aa_ (u:=u) h p.ix q.ix xx.pn NR.pn xx.len NR.len c c';refine dI hp hf hk ?_;simp only[az,aJ,xx.fx.qE,NR.fx.qE];simp only[ξ.av,ξ.eqv];generalize p.ix.map ζ.av=X at e;generalize q.ix.map ζ.av=Y at e;unfold W_;by_cases vS:p.name=q.name
 ·cases hb:ie ζ.eqv p.ix q.ix<;>simp[vS,e,hb]
 ·have:(p.name==q.name)=false:=by simpa using vS
  simp[vS,this]
theorem f141(p q:ξ)(hp:p.mE)(hq:q.mE)(m:Mem):kf u 141 [p.av,q.av] m=some (.bool (p.eqv q),m):=sPl rfl rfl rfl (fun x hx y hy=>f86 x hx.fx hx.cnt y hy.fx hy.cnt) p q hp hq m
theorem f145(xs ys:List ak)(c c':ρ)(hl:xs.length<1000000000000)(iH:ys.length<1000000000000)(m:Mem):
  kf u 145 [.list c (xs.map ak.av),.list c' (ys.map ak.av)] m=some (.bool (ie ak.eqv xs ys),m):=by
 refine dI (g:=GF) rfl rfl rfl ?_;have ex:∀l:List ak,aX m.ε.length false (l.map ak.av)=l.map ak.av:=fun l=>by rw[fe,cT];rfl
 simp only[az,aJ,exp,ex];generalize c.exp m.ε.length false=c;generalize c'.exp m.ε.length false=c';have l1:(xs.map ak.av).length=xs.length:=cg _;have l2:(ys.map ak.av).length=ys.length:=cg _;have g1:∀i (h:i<xs.length),(xs.map ak.av)[i]?=some (.agg [.str xs[i].name,.n xs[i].size]):=fun i h=>by rw[lB,dn h];rfl
 have g2:∀i (h:i<ys.length),(ys.map ak.av)[i]?=some (.agg [.str ys[i].name,.n ys[i].size]):=fun i h=>by rw[lB,dn h];rfl
 generalize xs.map ak.av=X at l1 g1;generalize ys.map ak.av=Y at l2 g2;let K:St->Prop:=fun st=>(st.e 0= .list c X/\st.e 1= .list c' Y)/\st.mem= {ε:=m.ε,η:=[]};unfold GF c145;refine Δ (K) (by simp[K]) fun s1 ⟨⟨h0,h1⟩,hm⟩=>?_;by_cases hlen:xs.length=ys.length
 ·refine Δ (K) (by simp[K,h0,h1,hm,l1,l2,hlen]) fun s1 ⟨⟨h0,h1⟩,hm⟩=>?_;refine bJ (fun z=>z.mem= {ε:=m.ε,η:=[]}/\ie ak.eqv xs ys=true) ?_ fun z ⟨hm,ht⟩=>κ.done .ret (fun z=>z.mem= {ε:=m.ε,η:=[]}/\z.e 4= .bool true) (by simp[hm]) fun z ⟨z1,z2⟩=>⟨by simp,⟨[],by simp[z1]⟩,[.bool true],by simp[z2],by rw[ht];simp⟩;refine Δ (fun z=>K z/\z.e 12= .n xs.length/\z.e 13= .n 0) (by simp[K,h0,h1,hm,l1]) fun z ⟨⟨⟨h0,h1⟩,hm⟩,bZ,dW⟩=>?_;let I:Nat->St->Prop:=fun i z=>(K z/\z.e 12= .n xs.length/\z.e 13= .n (i:Int))/\∀j (h:j<xs.length) (h':j<ys.length),j<i->ak.eqv xs[j] ys[j]=true;refine κ.block (κ.kp (I:=I) xs.length ⟨⟨⟨⟨h0,h1⟩,hm⟩,bZ,dW⟩,fun j _ _ h=>by omega⟩ fun i z hi ⟨⟨⟨⟨h0,h1⟩,hm⟩,bZ,dW⟩,Eg⟩=>?_);unfold VU;by_cases gN:i<xs.length
  ·have ti:i<ys.length:=by omega
   have ur:(i:Int)<xs.length:=by omega
   have Bt:(i:Int)<ys.length:=by omega
   have kB:bC .i64 ((i:Int)+1)=(i:Int)+1:=wrap_i64 (by omega) (by omega);have e1:=g1 i gN;have e2:=g2 i ti;have e3:X[i]'(by omega)= .agg [.str xs[i].name,.n xs[i].size]:=by rw[dn (by omega)]at e1;exact Option.some.inj e1
   have e4:Y[i]'(by omega)= .agg [.str ys[i].name,.n ys[i].size]:=by rw[dn (by omega)]at e2;exact Option.some.inj e2
   generalize hX:xs[i]=xi at*;generalize hY:ys[i]=yi at*;refine Δ (fun z=>(K z/\z.e 12= .n xs.length/\z.e 13= .n (i:Int))/\z.e 14= .bool true) (by simp[K,h0,h1,hm,bZ,dW,ur,gN]) fun z ⟨⟨⟨⟨h0,h1⟩,hm⟩,bZ,dW⟩,nA⟩=>?_;refine κ.go (s':=z) (by simp[nA]) ?_;by_cases hb:xi.name=yi.name/\xi.size=yi.size
   ·refine κ.done .normal (fun z=>K z/\z.e 12= .n xs.length/\z.e 13= .n ((i:Int)+1)) (by simp[K,h0,h1,hm,bZ,dW,ur,Bt,gN,ti,l1,l2,e1,e2,e3,e4,hb.1,hb.2,jL,kB]) fun z ⟨z1,z2,z3⟩=> .inl ⟨rfl,gN,⟨z1,z2,by rw[z3];simp⟩,fun j h h' hj=>?_⟩;by_cases me:j=i
    ·subst me;rw[hX,hY];simp[ak.eqv,hb.1,hb.2]
    ·exact Eg j h h' (by omega)
   ·have aY:ak.eqv xi yi=false:=by
     cases h:ak.eqv xi yi with
     |false=>rfl
     |true=>simp only[ak.eqv,Bool.and_eq_true,beq_iff_eq]at h;exact absurd h hb
    have dz:(decide (xi.name=yi.name)&&decide (xi.size=yi.size))=false:=by
     rw[Bool.and_eq_false_iff];by_cases h:xi.name=yi.name
     ·exact .inr (by simp only[decide_eq_false_iff_not];exact fun h'=>hb ⟨h,h'⟩)
     ·exact .inl (by simpa using h)
    refine κ.done .ret (fun z=>z.mem= {ε:=m.ε,η:=[]}/\z.e 4= .bool false) (by
     by_cases hs:xi.name=yi.name
     ·have hz:¬xi.size=yi.size:=fun h=>hb ⟨hs,h⟩;simp[K,h0,h1,hm,bZ,dW,ur,Bt,gN,ti,l1,l2,e1,e2,e3,e4,jL,hs,hz,kB]
     ·simp[K,h0,h1,hm,bZ,dW,ur,Bt,gN,ti,l1,l2,e1,e2,e3,e4,jL,hs,kB]) fun z ⟨z1,z2⟩=> .inr ⟨by simp,.inr ⟨by simp,.inr ⟨by simp,by simp,⟨[],by simp[z1]⟩,[.bool false],by simp[z2],?_⟩⟩⟩
    rw[Qq i gN ti (by rw[hX,hY];exact aY)];rfl
  ·have ur:¬(i:Int)<xs.length:=by omega
   obtain rfl:i=xs.length:=by omega
   exact κ.done (.exit 0) (fun z=>z.mem= {ε:=m.ε,η:=[]}) (by simp[hm,bZ,dW]) fun z hz=> .inr ⟨by simp,.inl ⟨rfl,.inl ⟨rfl,hz,Kq hlen fun j h h'=>Eg j h h' h⟩⟩⟩
 ·have φ:¬(xs.length:Int)=ys.length:=by omega
  rw[Qp hlen];exact κ.seq (M:=fun _=>False) (κ.done .ret (fun z=>z.mem= {ε:=m.ε,η:=[]}/\z.e 4= .bool false) (by simp[h0,h1,hm,l1,l2,hlen,φ,ff φ,bne_true φ]) fun z ⟨z1,z2⟩=> .inr ⟨by simp,by simp,⟨[],by simp[z1]⟩,[.bool false],by simp[z2],rfl⟩) fun z h=>h.elim
end Go.Θ.Tz
namespace Go.Θ
mutual
def δ.eqv:δ->δ->Bool
 | .mk k g nm _ pl sz to _ b _ e,.mk k' g' zM _ BU eT to' _ b' _ e'=>k==k'&&(g==g'&&(nm==zM&&(sz.eqv eT&&(to.eqv to'&&(δ.lJ b b'&&(δ.lJ e e'&&ie ξ.eqv pl BU))))))
def δ.lJ:List δ->List δ->Bool
 |[],[]=>true
 |a::l,b::l'=>a.eqv b&&δ.lJ l l'
 |_,_=>false
end
theorem δ.AU(l l':List δ):δ.lJ l l'=ie δ.eqv l l':=by
 induction l generalizing l' with
 |nil=>cases l'<;>rfl
 |cons a l ih=>cases l' with
  |nil=>rfl
  |cons b l'=>simp only[δ.lJ,ie,ih]
def τ.eqv(x y:τ):Bool:=x.name==y.name&&(ie ak.eqv x.au y.au&&δ.lJ x.body y.body)
end Go.Θ
namespace Go.Θ.Tz
open Go.Θ
variable{u:Nat}
attribute [local simp] exec dY dP eX aI dw fA eN aK fL bQ iu iE iM jd AV.cells newVar iX rd wr gT single dk cE e_ ew κ cK RV.get cL fT kz
theorem agB{x:ζ}(h:x.Ok)(hc:x.cnt<1000000000000):x.mE:=⟨ζ.fx x h,hc⟩
theorem WM{p:ξ}(h:p.Ok)(hc:p.wt<1000000000000):p.mE:=by simp only[ξ.wt]at hc;have:=ζ.AQ p.ix;exact⟨ξ.fx h,by omega,fun x hx=>agB (h.2.2 x hx).1 (by have:=ζ.AP hx;omega)⟩
theorem δ.Gm{x:δ}(h:x.Ok):Fx x.av:=by have:=Af (l:=[x]) ⟨h,trivial⟩;have h1:=this.1;have h2:=this.2;simp only[δ.χ,kW,al6]at h1;simp only[δ.χ,jJ,u9,and_true]at h2;exact⟨h1,h2⟩
theorem X5(l:List δ):(l.map fun x:δ=>AV.agg x.cells)=δ.χ l:=by rw[δ.eo];rfl
theorem aa'{F:Nat}(h:∀(x:ξ),x.mE->∀y:ξ,y.mE->∀m,ab (C u) (.fn (.func F) [] []) [x.av,y.av] m=some (.bool (x.eqv y),m))(l l':List ξ)(hl:∀x∈l,x.mE)(iH:∀x∈l',x.mE)(m1:l.length<1000000000000)(n1:l'.length<1000000000000)(c c':ρ)(m:Mem):
  kf u 140 [.list c (l.map ξ.av),.list c' (l'.map ξ.av),.fn (.func F) [] []] m=some (.bool (ie ξ.eqv l l'),m):=
 C5 (u:=u) (f:=140) (sz:=2) (F:=F) (Z:=[.str [],.list .nil []]) rfl rfl rfl rfl (fun p:ξ=>[.str p.name,.list p.c (p.ix.map ζ.av)]) (fun p:ξ=>[.str p.name,.list p.c (p.ix.map ζ.av)]) (fun _=>rfl) (fun _=>rfl) l l' (fun x hx=>(hl x hx).fx) (fun x hx=>(iH x hx).fx) ξ.eqv (fun a ha b hb m=>h a (hl a ha) b (iH b hb) m) c c' m1 n1 m
theorem Xd(l:List ξ):l.length<=eR l:=by
 induction l with
 |nil=>simp
 |cons a l ih=>simp only[cD,eR,ξ.wt];omega
structure EqS (u fi fl:Nat):Prop where
 sts:∀(l l':List δ),δ.cJ l->δ.cJ l'->δ.bI l<1000000000000->δ.bI l'<1000000000000->∀c c' m,ab (C u) (.fn (.func fl) [] []) [.list c (δ.χ l),.list c' (δ.χ l')] m=some (.bool (δ.lJ l l'),m)
theorem aba{f F:Nat}(hp:(C u).gQ f=none)(hf:(C u).fs f=some ⟨8,[.tmp 4],X_ F⟩)(hk:(C u).bf f=false)(l l':List δ)(hl:δ.cJ l)(iH:δ.cJ l')(hw:δ.bI l<1000000000000)(lS:δ.bI l'<1000000000000)
  (h:∀x∈l,∀y∈l',∀m,ab (C u) (.fn (.func F) [] []) [x.av,y.av] m=some (.bool (x.eqv y),m)) (c c':ρ) (m:Mem):ab (C u) (.fn (.func f) [] []) [.list c (δ.χ l),.list c' (δ.χ l')] m=some (.bool (δ.lJ l l'),m):=by
 have w1:=δ.Al l;have w2:=δ.Al l';have e:=fun c c'=>C5 (u:=u) (f:=138) (sz:=14) (F:=F) (Z:=[.n 0,.n 0,.str [],.list .nil [],.n 0,.n 0,.str [],.list .nil [],.n 0,.n 0,.str [],.list .nil [],.list .nil [],.list .nil []]) rfl rfl rfl rfl δ.cells δ.cells δ.lH δ.lH l l' (fun x hx=>δ.Gm (δ.iB hl x hx)) (fun x hx=>δ.Gm (δ.iB iH x hx)) δ.eqv h c c' (by omega) (by omega);rw[X5,X5]at e;rw[δ.AU];refine dI hp hf hk ?_;have x1:aX m.ε.length false (δ.χ l)=δ.χ l:=by have:=Af hl;rw[(zT _ false _ this.1).2.2.2,this.2]
 have x2:aX m.ε.length false (δ.χ l')=δ.χ l':=by have:=Af iH;rw[(zT _ false _ this.1).2.2.2,this.2]
 simp only[az,aJ,exp,x1,x2];generalize δ.χ l=X at e;generalize δ.χ l'=Y at e;unfold X_;simp[e]
theorem WO{x:δ}(h:x.Ok):δ.cJ x.body:=by cases x;exact h.2.2.2.2.2.2.1
theorem WQ{x:δ}(h:x.Ok):δ.cJ x.els:=by cases x;exact h.2.2.2.2.2.2.2.2
theorem Xj(l:List τ):l.length<=g_ l:=by
 induction l with
 |nil=>simp
 |cons a l ih=>simp only[cD,g_,τ.wt];omega
theorem f139(x y:δ)(hx:x.Ok)(hy:y.Ok)(wx:x.wt<1000000000000)(wy:y.wt<1000000000000)
  (hb:∀c c' m,kf u 73 [.list c (δ.χ x.body),.list c' (δ.χ y.body)] m=some (.bool (δ.lJ x.body y.body),m)) (he:∀c c' m,kf u 73 [.list c (δ.χ x.els),.list c' (δ.χ y.els)] m=some (.bool (δ.lJ x.els y.els),m)) (m:Mem):
  kf u 139 [x.av,y.av] m=some (.bool (x.eqv y),m):=by
 have fx:=δ.Gm hx;have fy:=δ.Gm hy;obtain⟨k,g,nm,cp,pl,⟨k1,n1,s1,d1,l1⟩,⟨k2,n2,s2,d2,l2⟩,cb,body,ce,els⟩:=x;obtain⟨k',g',zM,dU,BU,⟨Ot,n1',XQ,d1',VK⟩,⟨k2',n2',s2',d2',Et⟩,cb',yy,ce',SU⟩:=y;simp only[δ.body,δ.els]at hb he;simp only[δ.wt]at wx wy;obtain⟨-,-,p1,p2,p3,-,-,-,-⟩:=hx;obtain⟨-,-,q1,q2,q3,-,-,-,-⟩:=hy;have a1:=Xd pl;have a2:=Xd BU;have e1:=f86 (u:=u) _ (ζ.fx _ p2.1) (by omega) _ (ζ.fx _ q2.1) (by omega);have e2:=f86 (u:=u) _ (ζ.fx _ p3.1) (by omega) _ (ζ.fx _ q3.1) (by omega);have e3:=aa' (u:=u) (F:=141) (fun x hx y hy m=>f141 x y hx hy m) pl BU (fun x hx=>WM (p1 x hx) (by have:=ξ.oI hx;omega)) (fun x hx=>WM (q1 x hx) (by have:=ξ.oI hx;omega)) (by omega) (by omega);refine dI (g:=GC) rfl rfl rfl ?_;simp only[az,aJ,fx.qE,fy.qE];clear fx fy;simp only[δ.av,δ.cells,ζ.four,List.cons_append,List.nil_append];simp only[δ.eqv];simp only[ζ.av]at e1 e2;generalize gu:(ζ.mk k1 n1 s1 d1 l1).eqv (.mk Ot n1' XQ d1' VK)=z1 at e1⊢;generalize iI:(ζ.mk k2 n2 s2 d2 l2).eqv (.mk k2' n2' s2' d2' Et)=z2 at e2⊢;generalize ie ξ.eqv pl BU=z3 at e3⊢;generalize δ.lJ body yy=z4 at hb⊢;generalize δ.lJ els SU=z5 at he⊢;generalize ζ.χ l1=A1 at e1⊢;generalize ζ.χ l2=A2 at e2⊢;generalize ζ.χ VK=B1 at e1⊢;generalize ζ.χ Et=B2 at e2⊢;generalize pl.map ξ.av=A3 at e3⊢;generalize BU.map ξ.av=B3 at e3⊢;generalize δ.χ body=A4 at hb⊢;generalize δ.χ yy=B4 at hb⊢;generalize δ.χ els=A5 at he⊢;generalize δ.χ SU=B5 at he⊢;unfold GC c139;by_cases hk:k=k'
 ·subst hk;by_cases hg:g=g'
  ·subst hg;by_cases hn:nm=zM
   ·subst hn;cases z1 with
    |false=>simp[e1,e2,e3,hb,he]
    |true=>
     cases z2 with
     |false=>simp[e1,e2,e3,hb,he]
     |true=>
      cases z4 with
      |false=>simp[e1,e2,e3,hb,he]
      |true=>
       cases z5 with
       |false=>simp[e1,e2,e3,hb,he]
       |true=>
        cases z3 with
        |false=>simp[e1,e2,e3,hb,he]
        |true=>simp[e1,e2,e3,hb,he]
   ·have:(nm==zM)=false:=by simpa using hn
    simp[hn,this]
  ·simp[ff hg]
 ·simp[ff hk]
theorem f73(l:List δ):∀(l':List δ),δ.cJ l->δ.cJ l'->δ.bI l<1000000000000->δ.bI l'<1000000000000->∀c c' m,kf u 73 [.list c (δ.χ l),.list c' (δ.χ l')] m=some (.bool (δ.lJ l l'),m):=by refine δ.lists (P:=fun l=>∀(l':List δ),δ.cJ l->δ.cJ l'->δ.bI l<1000000000000->δ.bI l'<1000000000000->∀c c' m,kf u 73 [.list c (δ.χ l),.list c' (δ.χ l')] m=some (.bool (δ.lJ l l'),m)) (fun l ih l' hl iH hw lS c c' m=>?_) l;refine aba (F:=139) rfl rfl rfl l l' hl iH hw lS (fun x hx y hy m=>?_) c c' m;have ox:=δ.iB hl x hx;have oy:=δ.iB iH y hy;have w1:=δ.oI hx;have w2:=δ.oI hy;have w3:=δ.Ck x;have w4:=δ.Ck y;exact f139 x y ox oy (by omega) (by omega) ((ih x hx).1 y.body (WO ox) (WO oy) (by omega) (by omega)) ((ih x hx).2 y.els (WQ ox) (WQ oy) (by omega) (by omega)) m
theorem f144(x y:τ)(hx:x.Ok)(hy:y.Ok)(wx:x.wt<1000000000000)(wy:y.wt<1000000000000)(m:Mem):kf u 144 [x.av,y.av] m=some (.bool (x.eqv y),m):=by
 have fx:=τ.mK hx;have fy:=τ.mK hy;simp only[τ.wt]at wx wy;have e1:=f145 (u:=u) x.au y.au;have e2:=f73 (u:=u) x.body y.body hx.2.2.2.2.1 hy.2.2.2.2.1 (by omega) (by omega);have e1:=fun c c'=>e1 c c' (by omega) (by omega);refine dI (g:=GD) rfl rfl rfl ?_;simp only[az,aJ,fx.qE,fy.qE];clear fx fy;simp only[τ.av,τ.eqv];generalize ie ak.eqv x.au y.au=z1 at e1⊢;generalize δ.lJ x.body y.body=z2 at e2⊢;generalize x.au.map ak.av=A1 at e1⊢;generalize y.au.map ak.av=B1 at e1⊢;generalize δ.χ x.body=A2 at e2⊢;generalize δ.χ y.body=B2 at e2⊢;unfold GD Q3;by_cases hn:x.name=y.name
 ·cases z1 with
  |false=>simp[hn,e1,e2]
  |true=>simp[hn,e1,e2]
 ·have:(x.name==y.name)=false:=by simpa using hn
  simp[hn,this]
theorem f74(c c':ρ)(hc:bp c)(gX:bp c')(l l':List τ)(hl:∀x∈l,x.Ok)(iH:∀x∈l',x.Ok)(hw:g_ l<1000000000000)(lS:g_ l'<1000000000000)(m:Mem):
  kf u 74 [.agg [.list c (l.map τ.av)],.agg [.list c' (l'.map τ.av)]] m=some (.bool (ie τ.eqv l l'),m):=by
 have w1:=Xj l;have w2:=Xj l';have e:=C5 (u:=u) (f:=143) (sz:=3) (F:=144) (Z:=[.str [],.list .nil [],.list .nil []]) rfl rfl rfl rfl (fun p:τ=>[.str p.name,.list p.cp (p.au.map ak.av),.list p.cb (δ.χ p.body)]) (fun p:τ=>[.str p.name,.list p.cp (p.au.map ak.av),.list p.cb (δ.χ p.body)]) (fun _=>rfl) (fun _=>rfl) l l' (fun x hx=>τ.mK (hl x hx)) (fun x hx=>τ.mK (iH x hx)) τ.eqv (fun a ha b hb m=>f144 a b (hl a ha) (iH b hb) (by have:=τ.oI ha;omega) (by have:=τ.oI hb;omega) m) c c' (by omega) (by omega);refine dI (g:=HH) rfl rfl rfl ?_;have fx:Fx (.agg [.list c (l.map τ.av)]):=by have:=Dv.list c (bN.of τ.av l fun x hx=>τ.mK (hl x hx));rw[fR hc]at this;exact .agg (.cons this .nil)
 have fy:Fx (.agg [.list c' (l'.map τ.av)]):=by have:=Dv.list c' (bN.of τ.av l' fun x hx=>τ.mK (iH x hx));rw[fR gX]at this;exact .agg (.cons this .nil)
 simp only[az,aJ,fx.qE,fy.qE];clear fx fy;have e':∀m,kf u 143 [.list c (l.map τ.av),.list c' (l'.map τ.av),.fn (.func 144) [] []] m=some (.bool (ie τ.eqv l l'),m):=e;generalize l.map τ.av=X at e'⊢;generalize l'.map τ.av=Y at e'⊢;unfold HH R8;simp[e']
end Go.Θ.Tz
