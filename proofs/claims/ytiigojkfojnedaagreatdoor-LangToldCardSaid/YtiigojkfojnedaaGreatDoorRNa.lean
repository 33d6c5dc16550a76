import Derived.Test.YtiigojkfojnedaaGreatDoorRKw
set_option linter.all false
set_option maxRecDepth 100000
set_option maxHeartbeats 8000000
open Bool renaming and_false->ak0,true_and->sg,and_true->akV
open List renaming getElem_cons_zero->kz,map_map->cT,map_congr_left->dh,map_cons->ax,map_nil->aI,length_map->cz,getElem?_map->od,getElem?_eq_getElem->dp,take_of_length_le->fe,getElem_mem->db,length_cons->cN,cons_append->cy,nil_append->bB
open Go.IntKind renaming wrap->bN
open List.cons renaming injEq->sk
namespace Go.Δ
def dC{α β:Type}(q:α->β->Bool):List α->List β->Bool
 |[],[]=>true
 |a::l,b::l'=>q a b&&dC q l l'
 |_,_=>false
theorem Px{α β:Type}{q:α->β->Bool}{l:List α}{l':List β}(h:l.length≠l'.length):dC q l l'=false:=by
 induction l generalizing l' with
 |nil=>cases l' with
  |nil=>simp at h
  |cons b l'=>rfl
 |cons a l ih=>cases l' with
  |nil=>rfl
  |cons b l'=>simp only[dC,ih (by simpa using h),ak0]
theorem Py{α β:Type}{q:α->β->Bool}{l:List α}{l':List β}(i:Nat)(h:i<l.length)(h':i<l'.length)(hq:q l[i] l'[i]=false):dC q l l'=false:=by
 induction l generalizing l' i with
 |nil=>simp at h
 |cons a l ih=>cases l' with
  |nil=>rfl
  |cons b l'=>cases i with
   |zero=>simp only[kz]at hq;simp only[dC,hq,Bool.false_and]
   |succ i=>simp only[List.getElem_cons_succ]at hq;simp only[dC,ih i (by simpa using h) (by simpa using h') hq,ak0]
theorem JI{α β:Type}{q:α->β->Bool}{l:List α}{l':List β}(hl:l.length=l'.length)(h:∀i (h:i<l.length) (h':i<l'.length),q l[i] l'[i]=true):dC q l l'=true:=by
 induction l generalizing l' with
 |nil=>cases l' with
  |nil=>rfl
  |cons b l'=>simp at hl
 |cons a l ih=>cases l' with
  |nil=>simp at hl
  |cons b l'=>
   have h0:=h 0 (by simp) (by simp)
   simp only[kz]at h0;simp only[dC,h0,sg];exact ih (by simpa using hl) fun i h1 h2=>by have:=h (i+1) (by simpa using h1) (by simpa using h2);simpa using this
end Go.Δ
namespace Go.Δ.Tz
open Go.Δ
variable{u:Nat}
attribute [local simp] exec ef dR e_ aJ dF fE eR br fM bR iL iS jm jE AV.cells newVar jA rd wr iu single dk cD ff eF μ cF RV.get cK fV kT
def RN(sz:Nat)(Z:List AV):AC:=(.seq (.ops [⟨(some 18),.bin .lss (.t 17) (.t 16),none⟩]) (.seq (.cond (.t 18) .skip (.exit 0)) (.seq (.block 1 (.seq (.ops [⟨(some 19),.mv (.t 17),none⟩,⟨(some 20),.ia sz (.t 15) (.t 17),none⟩,⟨(some 21),.ld true sz (.t 20),none⟩,⟨(some 8),.alloc false Z,none⟩,⟨(some 7),.mv (.t 19),none⟩,⟨none,.st sz (.t 8) (.t 21),none⟩]) (.seq (.ops [⟨(some 22),.mv (.t 1),none⟩,⟨(some 23),.mv (.t 7),none⟩,⟨(some 24),.ia sz (.t 22) (.t 23),none⟩,⟨(some 25),.ld true sz (.t 24),none⟩,⟨(some 9),.alloc false Z,none⟩,⟨none,.st sz (.t 9) (.t 25),none⟩]) (.seq (.ops [⟨(some 26),.mv (.t 2),none⟩,⟨(some 27),.ld true sz (.t 8),none⟩,⟨(some 28),.ld true sz (.t 9),none⟩,⟨(some 29),.call (.t 26) [(.t 27),(.t 28)],none⟩,⟨(some 30),.un .not (.t 29),none⟩]) (.cond (.t 30) (.seq (.ops [⟨(some 6),.mv (.c (.bool false)),none⟩]) .ret) .skip))))) (.ops [⟨(some 31),.bin .add (.t 17) (.c (.n 1)),none⟩,⟨(some 17),.mv (.t 31),none⟩]))))
def RL(sz:Nat)(Z:List AV):AC:=(.seq (.ops [⟨(some 6),.mv (.c (.bool false)),none⟩]) (.seq (.seq (.ops [⟨(some 10),.mv (.t 0),none⟩,⟨(some 11),.len (.t 10),none⟩,⟨(some 12),.mv (.t 1),none⟩,⟨(some 13),.len (.t 12),none⟩,⟨(some 14),.bin .neq (.t 11) (.t 13),none⟩]) (.cond (.t 14) (.seq (.ops [⟨(some 6),.mv (.c (.bool false)),none⟩]) .ret) .skip)) (.seq (.seq (.ops [⟨(some 15),.mv (.t 0),none⟩,⟨(some 16),.len (.t 15),none⟩,⟨(some 17),.mv (.c (.n 0)),none⟩]) (.block 0 (.loop (RN sz Z)))) (.seq (.ops [⟨(some 6),.mv (.c (.bool true)),none⟩]) .ret))))
def UP(f:Nat):AC:=(.seq (.ops [⟨(some 2),.box false 4 (.t 0),none⟩,⟨(some 3),.box false 4 (.t 1),none⟩,⟨(some 4),.mv (.c (.bool false)),none⟩]) (.seq (.ops [⟨(some 5),.fa 0 (.t 2),none⟩,⟨(some 6),.ld false 1 (.t 5),none⟩,⟨(some 7),.fa 0 (.t 3),none⟩,⟨(some 8),.ld false 1 (.t 7),none⟩,⟨(some 9),.bin .eql (.t 6) (.t 8),none⟩,⟨(some 10),.mv (.t 9),none⟩,⟨(some 11),.fa 1 (.t 2),some (10,true)⟩,⟨(some 12),.ld false 1 (.t 11),some (10,true)⟩,⟨(some 13),.fa 1 (.t 3),some (10,true)⟩,⟨(some 14),.ld false 1 (.t 13),some (10,true)⟩,⟨(some 15),.bin .eql (.t 12) (.t 14),some (10,true)⟩,⟨(some 16),.pick (.t 10) (.t 15) (.c (.bool false)),none⟩,⟨(some 17),.mv (.t 16),none⟩,⟨(some 18),.fa 2 (.t 2),some (17,true)⟩,⟨(some 19),.ld false 1 (.t 18),some (17,true)⟩,⟨(some 20),.fa 2 (.t 3),some (17,true)⟩,⟨(some 21),.ld false 1 (.t 20),some (17,true)⟩,⟨(some 22),.bin .eql (.t 19) (.t 21),some (17,true)⟩,⟨(some 23),.pick (.t 17) (.t 22) (.c (.bool false)),none⟩,⟨(some 24),.mv (.t 23),none⟩,⟨(some 25),.fa 3 (.t 2),some (24,true)⟩,⟨(some 26),.ld false 1 (.t 25),some (24,true)⟩,⟨(some 27),.fa 3 (.t 3),some (24,true)⟩,⟨(some 28),.ld false 1 (.t 27),some (24,true)⟩,⟨(some 29),.call (.c (.fn (.func 142) [] [])) [(.t 26),(.t 28),(.c (.fn (.func f) [] []))],some (24,true)⟩,⟨(some 30),.pick (.t 24) (.t 29) (.c (.bool false)),none⟩,⟨(some 4),.mv (.t 30),none⟩]) .ret))
def V9(f:Nat):AC:=(.seq (.ops [⟨(some 2),.box false 2 (.t 0),none⟩,⟨(some 3),.box false 2 (.t 1),none⟩,⟨(some 4),.mv (.c (.bool false)),none⟩]) (.seq (.ops [⟨(some 5),.fa 0 (.t 2),none⟩,⟨(some 6),.ld false 1 (.t 5),none⟩,⟨(some 7),.fa 0 (.t 3),none⟩,⟨(some 8),.ld false 1 (.t 7),none⟩,⟨(some 9),.bin .eql (.t 6) (.t 8),none⟩,⟨(some 10),.mv (.t 9),none⟩,⟨(some 11),.fa 1 (.t 2),some (10,true)⟩,⟨(some 12),.ld false 1 (.t 11),some (10,true)⟩,⟨(some 13),.fa 1 (.t 3),some (10,true)⟩,⟨(some 14),.ld false 1 (.t 13),some (10,true)⟩,⟨(some 15),.call (.c (.fn (.func 142) [] [])) [(.t 12),(.t 14),(.c (.fn (.func f) [] []))],some (10,true)⟩,⟨(some 16),.pick (.t 10) (.t 15) (.c (.bool false)),none⟩,⟨(some 4),.mv (.t 16),none⟩]) .ret))
def W_(f:Nat):AC:=(.seq (.ops [⟨(some 4),.mv (.c (.bool false)),none⟩]) (.seq (.ops [⟨(some 5),.mv (.t 0),none⟩,⟨(some 6),.mv (.t 1),none⟩,⟨(some 7),.call (.c (.fn (.func 138) [] [])) [(.t 5),(.t 6),(.c (.fn (.func f) [] []))],none⟩,⟨(some 4),.mv (.t 7),none⟩]) .ret))
theorem Ap{f sz F:Nat}{Z:List AV}(hp:(C u).gM f=none)(hf:(C u).fs f=some ⟨32,[.tmp 6],RL sz Z⟩)(hk:(C u).ba f=false)(hZ:Z.length=sz){α β:Type}(A:α->List AV)(A':β->List AV)(hA:∀x,(A x).length=sz)(Lz:∀x,(A' x).length=sz)(xs:List α)(ys:List β)(hx:∀x∈xs,Fx (.agg (A x)))(hy:∀y∈ys,Fx (.agg (A' y)))
  (q:α->β->Bool) (hq:∀x∈xs,∀y∈ys,∀m,ab (C u) (.fn (.func F) [] []) [.agg (A x),.agg (A' y)] m=some (.bool (q x y),m)) (c c':τ) (hl:xs.length<1000000000000) (fO:ys.length<1000000000000) (m:Mem):
  ab (C u) (.fn (.func f) [] []) [.list c (xs.map fun x=> .agg (A x)),.list c' (ys.map fun y=> .agg (A' y)),.fn (.func F) [] []] m=some (.bool (dC q xs ys),m):=by
 refine dt hp hf hk ?_;have e1:aX m.ε.length false (xs.map fun x=>AV.agg (A x))=xs.map fun x=>AV.agg (A x):=by rw[ft,cT];exact dh fun x h=>(hx x h).lS _
 have e2:aX m.ε.length false (ys.map fun x=>AV.agg (A' x))=ys.map fun x=>AV.agg (A' x):=by rw[ft,cT];exact dh fun x h=>(hy x h).lS _
 simp only[ax,aI,exp,e1,e2,Fn.below,if_true,aX];generalize c.exp m.ε.length false=c;generalize c'.exp m.ε.length false=c';have l1:(xs.map fun x=>AV.agg (A x)).length=xs.length:=cz _;have l2:(ys.map fun x=>AV.agg (A' x)).length=ys.length:=cz _;have g1:∀i (h:i<xs.length),(xs.map fun x=>AV.agg (A x))[i]?=some (.agg (A xs[i])):=fun i h=>by rw[od,dp h];rfl
 have g2:∀i (h:i<ys.length),(ys.map fun x=>AV.agg (A' x))[i]?=some (.agg (A' ys[i])):=fun i h=>by rw[od,dp h];rfl
 generalize(xs.map fun x=>AV.agg (A x))=X at l1 g1;generalize(ys.map fun x=>AV.agg (A' x))=Y at l2 g2;let K:St->Prop:=fun st=>(st.e 0= .list c X/\st.e 1= .list c' Y/\st.e 2= .fn (.func F) [] [])/\st.mem= {ε:=m.ε,η:=[]};unfold RL;refine Ψ (K) (by simp[K]) fun s1 ⟨⟨h0,h1,h2⟩,hm⟩=>?_;by_cases hlen:xs.length=ys.length
 ·refine Ψ (K) (by simp[K,h0,h1,h2,hm,l1,l2,hlen]) fun s1 ⟨⟨h0,h1,h2⟩,hm⟩=>?_;refine bS (fun z=>z.mem= {ε:=m.ε,η:=[]}/\dC q xs ys=true) ?_ fun z ⟨hm,ht⟩=>μ.done .ret (fun z=>z.mem= {ε:=m.ε,η:=[]}/\z.e 6= .bool true) (by simp[hm]) fun z ⟨z1,z2⟩=>⟨by simp,⟨[],by simp[z1]⟩,[.bool true],by simp[z2],by rw[ht];simp⟩;refine Ψ (fun z=>K z/\z.e 15= .list c X/\z.e 16= .n xs.length/\z.e 17= .n 0) (by simp[K,h0,h1,h2,hm,l1]) fun z ⟨⟨⟨h0,h1,h2⟩,hm⟩,nG,mT,qf⟩=>?_;let I:Nat->St->Prop:=fun i z=>(K z/\z.e 15= .list c X/\z.e 16= .n xs.length/\z.e 17= .n (i:Int))/\∀j (h:j<xs.length) (h':j<ys.length),j<i->q xs[j] ys[j]=true;refine μ.block (μ.lH (I:=I) xs.length ⟨⟨⟨⟨h0,h1,h2⟩,hm⟩,nG,mT,qf⟩,fun j _ _ h=>by omega⟩ fun i z hi ⟨⟨⟨⟨h0,h1,h2⟩,hm⟩,nG,mT,qf⟩,DO⟩=>?_);unfold RN;by_cases gH:i<xs.length
  ·have sQ:i<ys.length:=by omega
   have tX:(i:Int)<xs.length:=by omega
   have AU:(i:Int)<ys.length:=by omega
   have kj:bN .i64 ((i:Int)+1)=(i:Int)+1:=wrap_i64 (by omega) (by omega);have e1:=g1 i gH;have e2:=g2 i sQ;have a1:=hA xs[i];have a2:=Lz ys[i];have t1:(A xs[i]).take sz=A xs[i]:=fe (by omega);have t2:(A' ys[i]).take sz=A' ys[i]:=fe (by omega);have d1:Z.drop sz=[]:=List.drop_eq_nil_of_le (by omega);have qq:=hq xs[i] (db gH) ys[i] (db sQ);have e3:X[i]'(by omega)= .agg (A xs[i]):=by rw[dp (by omega)]at e1;exact Option.some.inj e1
   have e4:Y[i]'(by omega)= .agg (A' ys[i]):=by rw[dp (by omega)]at e2;exact Option.some.inj e2
   generalize hX:xs[i]=xi at*;generalize hY:ys[i]=yi at*;refine Ψ (fun z=>(K z/\z.e 15= .list c X/\z.e 16= .n xs.length/\z.e 17= .n (i:Int))/\z.e 18= .bool true) (by simp[K,h0,h1,h2,hm,nG,mT,qf,tX,gH]) fun z ⟨⟨⟨⟨h0,h1,h2⟩,hm⟩,nG,mT,qf⟩,bo⟩=>?_;refine μ.go (s':=z) (by simp[bo]) ?_;cases hb:q xi yi with
   |true=>
    refine μ.done .normal (fun z=>K z/\z.e 15= .list c X/\z.e 16= .n xs.length/\z.e 17= .n ((i:Int)+1)) (by simp[K,h0,h1,h2,hm,nG,mT,qf,tX,AU,gH,sQ,l1,l2,e1,e2,e3,e4,a1,a2,t1,t2,d1,hZ,qq,hb,kj]) fun z ⟨z1,z2,z3,z4⟩=> .inl ⟨rfl,gH,⟨z1,z2,z3,by rw[z4];simp⟩,fun j h h' hj=>?_⟩
    by_cases lU:j=i
    ·subst lU;rw[hX,hY];exact hb
    ·exact DO j h h' (by omega)
   |false=>
    refine μ.done .ret (fun z=>z.mem= {ε:=m.ε,η:=[]}/\z.e 6= .bool false) (by simp[K,h0,h1,h2,hm,nG,mT,qf,tX,AU,gH,sQ,l1,l2,e1,e2,e3,e4,a1,a2,t1,t2,d1,hZ,qq,hb,kj]) fun z ⟨z1,z2⟩=> .inr ⟨by simp,.inr ⟨by simp,.inr ⟨by simp,by simp,⟨[],by simp[z1]⟩,[.bool false],by simp[z2],?_⟩⟩⟩
    rw[Py i gH sQ (by rw[hX,hY];exact hb)];rfl
  ·have tX:¬(i:Int)<xs.length:=by omega
   obtain rfl:i=xs.length:=by omega
   exact μ.done (.exit 0) (fun z=>z.mem= {ε:=m.ε,η:=[]}) (by simp[hm,mT,qf]) fun z hz=> .inr ⟨by simp,.inl ⟨rfl,.inl ⟨rfl,hz,JI hlen fun j h h'=>DO j h h' h⟩⟩⟩
 ·have φ:¬(xs.length:Int)=ys.length:=by omega
  rw[Px hlen];exact μ.seq (M:=fun _=>False) (μ.done .ret (fun z=>z.mem= {ε:=m.ε,η:=[]}/\z.e 6= .bool false) (by simp[h0,h1,h2,hm,l1,l2,hlen,φ,eK φ,bne_true φ]) fun z ⟨z1,z2⟩=> .inr ⟨by simp,by simp,⟨[],by simp[z1]⟩,[.bool false],by simp[z2],rfl⟩) fun z h=>h.elim
end Go.Δ.Tz
namespace Go.Δ
mutual
def ζ.eqv:ζ->ζ->Bool
 | .mk k n s _ l,.mk k' n' s' _ l'=>k==k'&&(n==n'&&(s==s'&&ζ.iU l l'))
def ζ.iU:List ζ->List ζ->Bool
 |[],[]=>true
 |a::l,b::l'=>a.eqv b&&ζ.iU l l'
 |_,_=>false
end
theorem ζ.uY(l l':List ζ):ζ.iU l l'=dC ζ.eqv l l':=by
 induction l generalizing l' with
 |nil=>cases l'<;>rfl
 |cons a l ih=>cases l' with
  |nil=>rfl
  |cons b l'=>simp only[ζ.iU,dC,ih]
def ρ.eqv(p q:ρ):Bool:=p.name==q.name&&dC ζ.eqv p.ix q.ix
def ai.eqv(p q:ai):Bool:=p.name==q.name&&p.size==q.size
structure ζ.lj (x:ζ):Prop where
 fx:Fx x.av
 cnt:x.cnt<1000000000000
structure ρ.lj (p:ρ):Prop where
 fx:Fx p.av
 len:p.ix.length<1000000000000
 lW:∀x∈p.ix,x.lj
end Go.Δ
namespace Go.Δ.Tz
open Go.Δ
variable{u:Nat}
attribute [local simp] exec ef dR e_ aJ dF fE eR br fM bR iL iS jm jE AV.cells newVar jA rd wr iu single dk cD ff eF μ cF RV.get cK fV kT
theorem ζ.Sg{k n:Int}{s:List Nat}{c:τ}{l:List ζ}(h:Fx (ζ.mk k n s c l).av):∀y∈l,Fx y.av:=by intro y hy;have h1:=h.1;have h2:=h.2;simp only[ζ.av,pf,kL,akV,sg]at h1;simp only[ζ.av,ej,jF,AV.agg.injEq,sk,and_true,true_and,AV.list.injEq]at h2;rw[ζ.dW]at h1 h2;rw[Ou,List.all_eq_true]at h1;rw[Al]at h2;refine⟨h1 _ (List.mem_map.2 ⟨y,hy,rfl⟩),?_⟩;obtain⟨j,hj,rfl⟩:=List.getElem_of_mem hy;have:=congrArg (fun k=>k[j]?) h2.2;simpa[hj]using this
theorem WQ{f:Nat}(hp:(C u).gM f=none)(hf:(C u).fs f=some ⟨31,[.tmp 4],UP f⟩)(hk:(C u).ba f=false)(x:ζ):Fx x.av->x.cnt<1000000000000->∀y:ζ,Fx y.av->y.cnt<1000000000000->∀m,ab (C u) (.fn (.func f) [] []) [x.av,y.av] m=some (.bool (x.eqv y),m):=by
 refine ζ.jd (Q:=fun x=>Fx x.av->x.cnt<1000000000000->∀y:ζ,Fx y.av->y.cnt<1000000000000->∀m,ab (C u) (.fn (.func f) [] []) [x.av,y.av] m=some (.bool (x.eqv y),m)) (fun k n s c l ih hx hxc y hy hyc m=>?_) x;obtain⟨k',n',s',c',l'⟩:=y;have k1:=ζ.Sg hx;have k2:=ζ.Sg hy;simp only[ζ.cnt]at hxc hyc;have m0:=ζ.Ak l;have n0:=ζ.Ak l';have m1:l.length<1000000000000:=by omega
 have n1:l'.length<1000000000000:=by omega
 have m2:∀y∈l,y.cnt<1000000000000:=fun y hy=>by have:=ζ.Aj hy;omega
 have n2:∀y∈l',y.cnt<1000000000000:=fun y hy=>by have:=ζ.Aj hy;omega
 have e:=fun c c'=>Ap (u:=u) (f:=142) (sz:=4) (F:=f) (Z:=[.n 0,.n 0,.str [],.list .nil []]) rfl rfl rfl rfl ζ.four ζ.four ζ.eY ζ.eY l l' (fun x hx=>by have:=k1 x hx;rwa[ζ.fm]at this) (fun x hx=>by have:=k2 x hx;rwa[ζ.fm]at this) ζ.eqv (fun a ha b hb m=>by
  have:=ih a ha (k1 a ha) (m2 a ha) b (k2 b hb) (n2 b hb) m
  rwa[ζ.fm,ζ.fm]at this) c c' m1 n1
 have a1:(l.map fun x:ζ=>AV.agg x.four)=ζ.χ l:=by rw[ζ.dW];exact dh fun x _=>(ζ.fm x).symm
 have a2:(l'.map fun x:ζ=>AV.agg x.four)=ζ.χ l':=by rw[ζ.dW];exact dh fun x _=>(ζ.fm x).symm
 rw[a1,a2]at e;refine dt hp hf hk ?_;simp only[ax,aI,hx.lS,hy.lS];simp only[ζ.av,ζ.eqv,ζ.uY];generalize ζ.χ l=X at e;generalize ζ.χ l'=Y at e;unfold UP;by_cases eC:k=k'
 ·by_cases wS:n=n'
  ·by_cases vp:s=s'
   ·cases hb:dC ζ.eqv l l'<;>simp[eC,wS,vp,e,hb]
   ·have:(s==s')=false:=by simpa using vp
    simp[eC,wS,vp,this]
  ·simp[eC,eK wS]
 ·simp[eK eC]
theorem f86(x:ζ)(hx:Fx x.av)(hc:x.cnt<1000000000000)(y:ζ)(hy:Fx y.av)(hd:y.cnt<1000000000000)(m:Mem):kf u 86 [x.av,y.av] m=some (.bool (x.eqv y),m):=WQ rfl rfl rfl x hx hc y hy hd m
theorem f250(x:ζ)(hx:Fx x.av)(hc:x.cnt<1000000000000)(y:ζ)(hy:Fx y.av)(hd:y.cnt<1000000000000)(m:Mem):kf u 250 [x.av,y.av] m=some (.bool (x.eqv y),m):=WQ rfl rfl rfl x hx hc y hy hd m
theorem UK(l:List ζ):(l.map fun x:ζ=>AV.agg x.four)=l.map ζ.av:=dh fun x _=>(ζ.fm x).symm
theorem Z_{F:Nat}(h:∀(x:ζ),x.lj->∀y:ζ,y.lj->∀m,ab (C u) (.fn (.func F) [] []) [x.av,y.av] m=some (.bool (x.eqv y),m))(l l':List ζ)(hl:∀x∈l,x.lj)(fO:∀x∈l',x.lj)(m1:l.length<1000000000000)(n1:l'.length<1000000000000)(c c':τ)(m:Mem):
  kf u 142 [.list c (l.map ζ.av),.list c' (l'.map ζ.av),.fn (.func F) [] []] m=some (.bool (dC ζ.eqv l l'),m):=by
 have:=Ap (u:=u) (f:=142) (sz:=4) (F:=F) (Z:=[.n 0,.n 0,.str [],.list .nil []]) rfl rfl rfl rfl ζ.four ζ.four ζ.eY ζ.eY l l' (fun x hx=>by have:=(hl x hx).fx;rwa[ζ.fm]at this) (fun x hx=>by have:=(fO x hx).fx;rwa[ζ.fm]at this) ζ.eqv (fun a ha b hb m=>by
  have:=h a (hl a ha) b (fO b hb) m
  rwa[ζ.fm,ζ.fm]at this) c c' m1 n1 m
 rw[UK,UK]at this;exact this
theorem WR{f F:Nat}(hp:(C u).gM f=none)(hf:(C u).fs f=some ⟨17,[.tmp 4],V9 F⟩)(hk:(C u).ba f=false)(h:∀(x:ζ),x.lj->∀y:ζ,y.lj->∀m,ab (C u) (.fn (.func F) [] []) [x.av,y.av] m=some (.bool (x.eqv y),m))(p q:ρ)(wT:p.lj)(MR:q.lj)(m:Mem):ab (C u) (.fn (.func f) [] []) [p.av,q.av] m=some (.bool (p.eqv q),m):=by
 have e:=fun c c'=>Z_ (u:=u) h p.ix q.ix wT.lW MR.lW wT.len MR.len c c';refine dt hp hf hk ?_;simp only[ax,aI,wT.fx.lS,MR.fx.lS];simp only[ρ.av,ρ.eqv];generalize p.ix.map ζ.av=X at e;generalize q.ix.map ζ.av=Y at e;unfold V9;by_cases vp:p.name=q.name
 ·cases hb:dC ζ.eqv p.ix q.ix<;>simp[vp,e,hb]
 ·have:(p.name==q.name)=false:=by simpa using vp
  simp[vp,this]
theorem f141(p q:ρ)(hp:p.lj)(hq:q.lj)(m:Mem):kf u 141 [p.av,q.av] m=some (.bool (p.eqv q),m):=WR rfl rfl rfl (fun x hx y hy=>f86 x hx.fx hx.cnt y hy.fx hy.cnt) p q hp hq m
theorem f249(p q:ρ)(hp:p.lj)(hq:q.lj)(m:Mem):kf u 249 [p.av,q.av] m=some (.bool (p.eqv q),m):=WR rfl rfl rfl (fun x hx y hy=>f250 x hx.fx hx.cnt y hy.fx hy.cnt) p q hp hq m
theorem f145(xs ys:List ai)(c c':τ)(hl:xs.length<1000000000000)(fO:ys.length<1000000000000)(m:Mem):
  kf u 145 [.list c (xs.map ai.av),.list c' (ys.map ai.av)] m=some (.bool (dC ai.eqv xs ys),m):=by
 refine dt (g:=F6) rfl rfl rfl ?_;have ex:∀l:List ai,aX m.ε.length false (l.map ai.av)=l.map ai.av:=fun l=>by rw[ft,cT];rfl
 simp only[ax,aI,exp,ex];generalize c.exp m.ε.length false=c;generalize c'.exp m.ε.length false=c';have l1:(xs.map ai.av).length=xs.length:=cz _;have l2:(ys.map ai.av).length=ys.length:=cz _;have g1:∀i (h:i<xs.length),(xs.map ai.av)[i]?=some (.agg [.str xs[i].name,.n xs[i].size]):=fun i h=>by rw[od,dp h];rfl
 have g2:∀i (h:i<ys.length),(ys.map ai.av)[i]?=some (.agg [.str ys[i].name,.n ys[i].size]):=fun i h=>by rw[od,dp h];rfl
 generalize xs.map ai.av=X at l1 g1;generalize ys.map ai.av=Y at l2 g2;let K:St->Prop:=fun st=>(st.e 0= .list c X/\st.e 1= .list c' Y)/\st.mem= {ε:=m.ε,η:=[]};unfold F6 c145;refine Ψ (K) (by simp[K]) fun s1 ⟨⟨h0,h1⟩,hm⟩=>?_;by_cases hlen:xs.length=ys.length
 ·refine Ψ (K) (by simp[K,h0,h1,hm,l1,l2,hlen]) fun s1 ⟨⟨h0,h1⟩,hm⟩=>?_;refine bS (fun z=>z.mem= {ε:=m.ε,η:=[]}/\dC ai.eqv xs ys=true) ?_ fun z ⟨hm,ht⟩=>μ.done .ret (fun z=>z.mem= {ε:=m.ε,η:=[]}/\z.e 4= .bool true) (by simp[hm]) fun z ⟨z1,z2⟩=>⟨by simp,⟨[],by simp[z1]⟩,[.bool true],by simp[z2],by rw[ht];simp⟩;refine Ψ (fun z=>K z/\z.e 12= .n xs.length/\z.e 13= .n 0) (by simp[K,h0,h1,hm,l1]) fun z ⟨⟨⟨h0,h1⟩,hm⟩,dq,jT⟩=>?_;let I:Nat->St->Prop:=fun i z=>(K z/\z.e 12= .n xs.length/\z.e 13= .n (i:Int))/\∀j (h:j<xs.length) (h':j<ys.length),j<i->ai.eqv xs[j] ys[j]=true;refine μ.block (μ.lH (I:=I) xs.length ⟨⟨⟨⟨h0,h1⟩,hm⟩,dq,jT⟩,fun j _ _ h=>by omega⟩ fun i z hi ⟨⟨⟨⟨h0,h1⟩,hm⟩,dq,jT⟩,DO⟩=>?_);unfold U4;by_cases gH:i<xs.length
  ·have sQ:i<ys.length:=by omega
   have tX:(i:Int)<xs.length:=by omega
   have AU:(i:Int)<ys.length:=by omega
   have kj:bN .i64 ((i:Int)+1)=(i:Int)+1:=wrap_i64 (by omega) (by omega);have e1:=g1 i gH;have e2:=g2 i sQ;have e3:X[i]'(by omega)= .agg [.str xs[i].name,.n xs[i].size]:=by rw[dp (by omega)]at e1;exact Option.some.inj e1
   have e4:Y[i]'(by omega)= .agg [.str ys[i].name,.n ys[i].size]:=by rw[dp (by omega)]at e2;exact Option.some.inj e2
   generalize hX:xs[i]=xi at*;generalize hY:ys[i]=yi at*;refine Ψ (fun z=>(K z/\z.e 12= .n xs.length/\z.e 13= .n (i:Int))/\z.e 14= .bool true) (by simp[K,h0,h1,hm,dq,jT,tX,gH]) fun z ⟨⟨⟨⟨h0,h1⟩,hm⟩,dq,jT⟩,oE⟩=>?_;refine μ.go (s':=z) (by simp[oE]) ?_;by_cases hb:xi.name=yi.name/\xi.size=yi.size
   ·refine μ.done .normal (fun z=>K z/\z.e 12= .n xs.length/\z.e 13= .n ((i:Int)+1)) (by simp[K,h0,h1,hm,dq,jT,tX,AU,gH,sQ,l1,l2,e1,e2,e3,e4,hb.1,hb.2,jH,kj]) fun z ⟨z1,z2,z3⟩=> .inl ⟨rfl,gH,⟨z1,z2,by rw[z3];simp⟩,fun j h h' hj=>?_⟩;by_cases lU:j=i
    ·subst lU;rw[hX,hY];simp[ai.eqv,hb.1,hb.2]
    ·exact DO j h h' (by omega)
   ·have aW:ai.eqv xi yi=false:=by
     cases h:ai.eqv xi yi with
     |false=>rfl
     |true=>simp only[ai.eqv,Bool.and_eq_true,beq_iff_eq]at h;exact absurd h hb
    have dA:(decide (xi.name=yi.name)&&decide (xi.size=yi.size))=false:=by
     rw[Bool.and_eq_false_iff];by_cases h:xi.name=yi.name
     ·exact .inr (by simp only[decide_eq_false_iff_not];exact fun h'=>hb ⟨h,h'⟩)
     ·exact .inl (by simpa using h)
    refine μ.done .ret (fun z=>z.mem= {ε:=m.ε,η:=[]}/\z.e 4= .bool false) (by
     by_cases hs:xi.name=yi.name
     ·have hz:¬xi.size=yi.size:=fun h=>hb ⟨hs,h⟩;simp[K,h0,h1,hm,dq,jT,tX,AU,gH,sQ,l1,l2,e1,e2,e3,e4,jH,hs,hz,kj]
     ·simp[K,h0,h1,hm,dq,jT,tX,AU,gH,sQ,l1,l2,e1,e2,e3,e4,jH,hs,kj]) fun z ⟨z1,z2⟩=> .inr ⟨by simp,.inr ⟨by simp,.inr ⟨by simp,by simp,⟨[],by simp[z1]⟩,[.bool false],by simp[z2],?_⟩⟩⟩
    rw[Py i gH sQ (by rw[hX,hY];exact aW)];rfl
  ·have tX:¬(i:Int)<xs.length:=by omega
   obtain rfl:i=xs.length:=by omega
   exact μ.done (.exit 0) (fun z=>z.mem= {ε:=m.ε,η:=[]}) (by simp[hm,dq,jT]) fun z hz=> .inr ⟨by simp,.inl ⟨rfl,.inl ⟨rfl,hz,JI hlen fun j h h'=>DO j h h' h⟩⟩⟩
 ·have φ:¬(xs.length:Int)=ys.length:=by omega
  rw[Px hlen];exact μ.seq (M:=fun _=>False) (μ.done .ret (fun z=>z.mem= {ε:=m.ε,η:=[]}/\z.e 4= .bool false) (by simp[h0,h1,hm,l1,l2,hlen,φ,eK φ,bne_true φ]) fun z ⟨z1,z2⟩=> .inr ⟨by simp,by simp,⟨[],by simp[z1]⟩,[.bool false],by simp[z2],rfl⟩) fun z h=>h.elim
end Go.Δ.Tz
namespace Go.Δ
mutual
def δ.eqv:δ->δ->Bool
 | .mk k g nm _ pl sz to _ b _ e,.mk k' g' rV _ qL eN O9 _ b' _ e'=>k==k'&&(g==g'&&(nm==rV&&(sz.eqv eN&&(to.eqv O9&&(δ.iU b b'&&(δ.iU e e'&&dC ρ.eqv pl qL))))))
def δ.iU:List δ->List δ->Bool
 |[],[]=>true
 |a::l,b::l'=>a.eqv b&&δ.iU l l'
 |_,_=>false
end
theorem δ.uY(l l':List δ):δ.iU l l'=dC δ.eqv l l':=by
 induction l generalizing l' with
 |nil=>cases l'<;>rfl
 |cons a l ih=>cases l' with
  |nil=>rfl
  |cons b l'=>simp only[δ.iU,dC,ih]
def ξ.eqv(x y:ξ):Bool:=x.name==y.name&&(dC ai.eqv x.au y.au&&δ.iU x.body y.body)
end Go.Δ
namespace Go.Δ.Tz
open Go.Δ
variable{u:Nat}
attribute [local simp] exec ef dR e_ aJ dF fE eR br fM bR iL iS jm jE AV.cells newVar jA rd wr iu single dk cD ff eF μ cF RV.get cK fV kT
theorem aft{x:ζ}(h:x.Ok)(hc:x.cnt<1000000000000):x.lj:=⟨ζ.fx x h,hc⟩
theorem IA{p:ρ}(h:p.Ok)(hc:p.wt<1000000000000):p.lj:=by simp only[ρ.wt]at hc;have:=ζ.Ak p.ix;exact⟨ρ.fx h,by omega,fun x hx=>aft (h.2.2 x hx).1 (by have:=ζ.Aj hx;omega)⟩
theorem δ.Av{x:δ}(h:x.Ok):Fx x.av:=by have:=zH (l:=[x]) ⟨h,trivial⟩;have h1:=this.1;have h2:=this.2;simp only[δ.χ,kL,akV]at h1;simp only[δ.χ,jF,sk,and_true]at h2;exact⟨h1,h2⟩
theorem W5(l:List δ):(l.map fun x:δ=>AV.agg x.cells)=δ.χ l:=by rw[δ.dW];rfl
theorem RO{F:Nat}(h:∀(x:ρ),x.lj->∀y:ρ,y.lj->∀m,ab (C u) (.fn (.func F) [] []) [x.av,y.av] m=some (.bool (x.eqv y),m))(l l':List ρ)(hl:∀x∈l,x.lj)(fO:∀x∈l',x.lj)(m1:l.length<1000000000000)(n1:l'.length<1000000000000)(c c':τ)(m:Mem):
  kf u 140 [.list c (l.map ρ.av),.list c' (l'.map ρ.av),.fn (.func F) [] []] m=some (.bool (dC ρ.eqv l l'),m):=
 Ap (u:=u) (f:=140) (sz:=2) (F:=F) (Z:=[.str [],.list .nil []]) rfl rfl rfl rfl (fun p:ρ=>[.str p.name,.list p.c (p.ix.map ζ.av)]) (fun p:ρ=>[.str p.name,.list p.c (p.ix.map ζ.av)]) (fun _=>rfl) (fun _=>rfl) l l' (fun x hx=>(hl x hx).fx) (fun x hx=>(fO x hx).fx) ρ.eqv (fun a ha b hb m=>h a (hl a ha) b (fO b hb) m) c c' m1 n1 m
theorem IL(l:List ρ):l.length<=eL l:=by
 induction l with
 |nil=>simp
 |cons a l ih=>simp only[cN,eL,ρ.wt];omega
structure EqS (u fi fl:Nat):Prop where
 sts:∀(l l':List δ),δ.cm l->δ.cm l'->δ.bC l<1000000000000->δ.bC l'<1000000000000->∀c c' m,ab (C u) (.fn (.func fl) [] []) [.list c (δ.χ l),.list c' (δ.χ l')] m=some (.bool (δ.iU l l'),m)
theorem RP{f F:Nat}(hp:(C u).gM f=none)(hf:(C u).fs f=some ⟨8,[.tmp 4],W_ F⟩)(hk:(C u).ba f=false)(l l':List δ)(hl:δ.cm l)(fO:δ.cm l')(hw:δ.bC l<1000000000000)(nS:δ.bC l'<1000000000000)
  (h:∀x∈l,∀y∈l',∀m,ab (C u) (.fn (.func F) [] []) [x.av,y.av] m=some (.bool (x.eqv y),m)) (c c':τ) (m:Mem):ab (C u) (.fn (.func f) [] []) [.list c (δ.χ l),.list c' (δ.χ l')] m=some (.bool (δ.iU l l'),m):=by
 have w1:=δ.zM l;have w2:=δ.zM l';have e:=fun c c'=>Ap (u:=u) (f:=138) (sz:=14) (F:=F) (Z:=[.n 0,.n 0,.str [],.list .nil [],.n 0,.n 0,.str [],.list .nil [],.n 0,.n 0,.str [],.list .nil [],.list .nil [],.list .nil []]) rfl rfl rfl rfl δ.cells δ.cells δ.ll δ.ll l l' (fun x hx=>δ.Av (δ.gK hl x hx)) (fun x hx=>δ.Av (δ.gK fO x hx)) δ.eqv h c c' (by omega) (by omega);rw[W5,W5]at e;rw[δ.uY];refine dt hp hf hk ?_;have x1:aX m.ε.length false (δ.χ l)=δ.χ l:=by have:=zH hl;rw[(zr _ false _ this.1).2.2.2,this.2]
 have x2:aX m.ε.length false (δ.χ l')=δ.χ l':=by have:=zH fO;rw[(zr _ false _ this.1).2.2.2,this.2]
 simp only[ax,aI,exp,x1,x2];generalize δ.χ l=X at e;generalize δ.χ l'=Y at e;unfold W_;simp[e]
theorem IB{x:δ}(h:x.Ok):δ.cm x.body:=by cases x;exact h.2.2.2.2.2.2.1
theorem IC{x:δ}(h:x.Ok):δ.cm x.els:=by cases x;exact h.2.2.2.2.2.2.2.2
theorem IN(l:List ξ):l.length<=gC l:=by
 induction l with
 |nil=>simp
 |cons a l ih=>simp only[cN,gC,ξ.wt];omega
theorem f139(x y:δ)(hx:x.Ok)(hy:y.Ok)(wx:x.wt<1000000000000)(wy:y.wt<1000000000000)
  (hb:∀c c' m,kf u 73 [.list c (δ.χ x.body),.list c' (δ.χ y.body)] m=some (.bool (δ.iU x.body y.body),m)) (he:∀c c' m,kf u 73 [.list c (δ.χ x.els),.list c' (δ.χ y.els)] m=some (.bool (δ.iU x.els y.els),m)) (m:Mem):
  kf u 139 [x.av,y.av] m=some (.bool (x.eqv y),m):=by
 have fx:=δ.Av hx;have fy:=δ.Av hy;obtain⟨k,g,nm,cp,pl,⟨k1,n1,s1,d1,l1⟩,⟨k2,n2,s2,d2,l2⟩,cb,body,ce,els⟩:=x;obtain⟨k',g',rV,dD,qL,⟨DU,N7,IY,Kx,DW⟩,⟨Ns,N8,OS,Ky,xb⟩,Q_,sr,Rd,Ao⟩:=y;simp only[δ.body,δ.els]at hb he;simp only[δ.wt]at wx wy;obtain⟨-,-,p1,p2,p3,-,-,-,-⟩:=hx;obtain⟨-,-,q1,q2,q3,-,-,-,-⟩:=hy;have a1:=IL pl;have a2:=IL qL;have e1:=f86 (u:=u) _ (ζ.fx _ p2.1) (by omega) _ (ζ.fx _ q2.1) (by omega);have e2:=f86 (u:=u) _ (ζ.fx _ p3.1) (by omega) _ (ζ.fx _ q3.1) (by omega);have e3:=RO (u:=u) (F:=141) (fun x hx y hy m=>f141 x y hx hy m) pl qL (fun x hx=>IA (p1 x hx) (by have:=ρ.kP hx;omega)) (fun x hx=>IA (q1 x hx) (by have:=ρ.kP hx;omega)) (by omega) (by omega);refine dt (g:=F4) rfl rfl rfl ?_;simp only[ax,aI,fx.lS,fy.lS];clear fx fy;simp only[δ.av,δ.cells,ζ.four,cy,bB];simp only[δ.eqv];simp only[ζ.av]at e1 e2;generalize fX:(ζ.mk k1 n1 s1 d1 l1).eqv (.mk DU N7 IY Kx DW)=z1 at e1⊢;generalize hU:(ζ.mk k2 n2 s2 d2 l2).eqv (.mk Ns N8 OS Ky xb)=z2 at e2⊢;generalize dC ρ.eqv pl qL=z3 at e3⊢;generalize δ.iU body sr=z4 at hb⊢;generalize δ.iU els Ao=z5 at he⊢;generalize ζ.χ l1=A1 at e1⊢;generalize ζ.χ l2=A2 at e2⊢;generalize ζ.χ DW=B1 at e1⊢;generalize ζ.χ xb=B2 at e2⊢;generalize pl.map ρ.av=A3 at e3⊢;generalize qL.map ρ.av=B3 at e3⊢;generalize δ.χ body=A4 at hb⊢;generalize δ.χ sr=B4 at hb⊢;generalize δ.χ els=A5 at he⊢;generalize δ.χ Ao=B5 at he⊢;unfold F4 c139;by_cases hk:k=k'
 ·subst hk;by_cases hg:g=g'
  ·subst hg;by_cases hn:nm=rV
   ·subst hn;cases z1 with
    |false=>simp[e1,e2,e3,hb,he]
    |true=>
     cases z2 with
     |false=>simp[e1,e2,e3,hb,he]
     |true=>
      cases z4 with
      |false=>simp[e1,e2,e3,hb,he]
      |true=>
       cases z5 with
       |false=>simp[e1,e2,e3,hb,he]
       |true=>
        cases z3 with
        |false=>simp[e1,e2,e3,hb,he]
        |true=>simp[e1,e2,e3,hb,he]
   ·have:(nm==rV)=false:=by simpa using hn
    simp[hn,this]
  ·simp[eK hg]
 ·simp[eK hk]
theorem f73(l:List δ):∀(l':List δ),δ.cm l->δ.cm l'->δ.bC l<1000000000000->δ.bC l'<1000000000000->∀c c' m,kf u 73 [.list c (δ.χ l),.list c' (δ.χ l')] m=some (.bool (δ.iU l l'),m):=by refine δ.lists (P:=fun l=>∀(l':List δ),δ.cm l->δ.cm l'->δ.bC l<1000000000000->δ.bC l'<1000000000000->∀c c' m,kf u 73 [.list c (δ.χ l),.list c' (δ.χ l')] m=some (.bool (δ.iU l l'),m)) (fun l ih l' hl fO hw nS c c' m=>?_) l;refine RP (F:=139) rfl rfl rfl l l' hl fO hw nS (fun x hx y hy m=>?_) c c' m;have ox:=δ.gK hl x hx;have oy:=δ.gK fO y hy;have w1:=δ.kP hx;have w2:=δ.kP hy;have w3:=δ.xB x;have w4:=δ.xB y;exact f139 x y ox oy (by omega) (by omega) ((ih x hx).1 y.body (IB ox) (IB oy) (by omega) (by omega)) ((ih x hx).2 y.els (IC ox) (IC oy) (by omega) (by omega)) m
theorem f144(x y:ξ)(hx:x.Ok)(hy:y.Ok)(wx:x.wt<1000000000000)(wy:y.wt<1000000000000)(m:Mem):kf u 144 [x.av,y.av] m=some (.bool (x.eqv y),m):=by
 have fx:=ξ.jR hx;have fy:=ξ.jR hy;simp only[ξ.wt]at wx wy;have e1:=f145 (u:=u) x.au y.au;have e2:=f73 (u:=u) x.body y.body hx.2.2.2.2.1 hy.2.2.2.2.1 (by omega) (by omega);have e1:=fun c c'=>e1 c c' (by omega) (by omega);refine dt (g:=F5) rfl rfl rfl ?_;simp only[ax,aI,fx.lS,fy.lS];clear fx fy;simp only[ξ.av,ξ.eqv];generalize dC ai.eqv x.au y.au=z1 at e1⊢;generalize δ.iU x.body y.body=z2 at e2⊢;generalize x.au.map ai.av=A1 at e1⊢;generalize y.au.map ai.av=B1 at e1⊢;generalize δ.χ x.body=A2 at e2⊢;generalize δ.χ y.body=B2 at e2⊢;unfold F5 Qd;by_cases hn:x.name=y.name
 ·cases z1 with
  |false=>simp[hn,e1,e2]
  |true=>simp[hn,e1,e2]
 ·have:(x.name==y.name)=false:=by simpa using hn
  simp[hn,this]
theorem f74(c c':τ)(hc:bm c)(gQ:bm c')(l l':List ξ)(hl:∀x∈l,x.Ok)(fO:∀x∈l',x.Ok)(hw:gC l<1000000000000)(nS:gC l'<1000000000000)(m:Mem):
  kf u 74 [.agg [.list c (l.map ξ.av)],.agg [.list c' (l'.map ξ.av)]] m=some (.bool (dC ξ.eqv l l'),m):=by
 have w1:=IN l;have w2:=IN l';have e:=Ap (u:=u) (f:=143) (sz:=3) (F:=144) (Z:=[.str [],.list .nil [],.list .nil []]) rfl rfl rfl rfl (fun p:ξ=>[.str p.name,.list p.cp (p.au.map ai.av),.list p.cb (δ.χ p.body)]) (fun p:ξ=>[.str p.name,.list p.cp (p.au.map ai.av),.list p.cb (δ.χ p.body)]) (fun _=>rfl) (fun _=>rfl) l l' (fun x hx=>ξ.jR (hl x hx)) (fun x hx=>ξ.jR (fO x hx)) ξ.eqv (fun a ha b hb m=>f144 a b (hl a ha) (fO b hb) (by have:=ξ.kP ha;omega) (by have:=ξ.kP hb;omega) m) c c' (by omega) (by omega);refine dt (g:=G_) rfl rfl rfl ?_;have fx:Fx (.agg [.list c (l.map ξ.av)]):=by have:=Dv.list c (bL.of ξ.av l fun x hx=>ξ.jR (hl x hx));rw[fq hc]at this;exact .agg (.cons this .nil)
 have fy:Fx (.agg [.list c' (l'.map ξ.av)]):=by have:=Dv.list c' (bL.of ξ.av l' fun x hx=>ξ.jR (fO x hx));rw[fq gQ]at this;exact .agg (.cons this .nil)
 simp only[ax,aI,fx.lS,fy.lS];clear fx fy;have e':∀m,kf u 143 [.list c (l.map ξ.av),.list c' (l'.map ξ.av),.fn (.func 144) [] []] m=some (.bool (dC ξ.eqv l l'),m):=e;generalize l.map ξ.av=X at e'⊢;generalize l'.map ξ.av=Y at e'⊢;unfold G_ Q4;simp[e']
theorem f210(x y:δ)(hx:x.Ok)(hy:y.Ok)(wx:x.wt<1000000000000)(wy:y.wt<1000000000000)
  (hb:∀c c' m,kf u 147 [.list c (δ.χ x.body),.list c' (δ.χ y.body)] m=some (.bool (δ.iU x.body y.body),m)) (he:∀c c' m,kf u 147 [.list c (δ.χ x.els),.list c' (δ.χ y.els)] m=some (.bool (δ.iU x.els y.els),m)) (m:Mem):
  kf u 210 [x.av,y.av] m=some (.bool (x.eqv y),m):=by
 have fx:=δ.Av hx;have fy:=δ.Av hy;obtain⟨k,g,nm,cp,pl,⟨k1,n1,s1,d1,l1⟩,⟨k2,n2,s2,d2,l2⟩,cb,body,ce,els⟩:=x;obtain⟨k',g',rV,dD,qL,⟨DU,N7,IY,Kx,DW⟩,⟨Ns,N8,OS,Ky,xb⟩,Q_,sr,Rd,Ao⟩:=y;simp only[δ.body,δ.els]at hb he;simp only[δ.wt]at wx wy;obtain⟨-,-,p1,p2,p3,-,-,-,-⟩:=hx;obtain⟨-,-,q1,q2,q3,-,-,-,-⟩:=hy;have a1:=IL pl;have a2:=IL qL;have e1:=f250 (u:=u) _ (ζ.fx _ p2.1) (by omega) _ (ζ.fx _ q2.1) (by omega);have e2:=f250 (u:=u) _ (ζ.fx _ p3.1) (by omega) _ (ζ.fx _ q3.1) (by omega);have e3:=RO (u:=u) (F:=249) (fun x hx y hy m=>f249 x y hx hy m) pl qL (fun x hx=>IA (p1 x hx) (by have:=ρ.kP hx;omega)) (fun x hx=>IA (q1 x hx) (by have:=ρ.kP hx;omega)) (by omega) (by omega);refine dt (g:=Gv) rfl rfl rfl ?_;simp only[ax,aI,fx.lS,fy.lS];clear fx fy;simp only[δ.av,δ.cells,ζ.four,cy,bB];simp only[δ.eqv];simp only[ζ.av]at e1 e2;generalize fX:(ζ.mk k1 n1 s1 d1 l1).eqv (.mk DU N7 IY Kx DW)=z1 at e1⊢;generalize hU:(ζ.mk k2 n2 s2 d2 l2).eqv (.mk Ns N8 OS Ky xb)=z2 at e2⊢;generalize dC ρ.eqv pl qL=z3 at e3⊢;generalize δ.iU body sr=z4 at hb⊢;generalize δ.iU els Ao=z5 at he⊢;generalize ζ.χ l1=A1 at e1⊢;generalize ζ.χ l2=A2 at e2⊢;generalize ζ.χ DW=B1 at e1⊢;generalize ζ.χ xb=B2 at e2⊢;generalize pl.map ρ.av=A3 at e3⊢;generalize qL.map ρ.av=B3 at e3⊢;generalize δ.χ body=A4 at hb⊢;generalize δ.χ sr=B4 at hb⊢;generalize δ.χ els=A5 at he⊢;generalize δ.χ Ao=B5 at he⊢;unfold Gv c210;by_cases hk:k=k'
 ·subst hk;by_cases hg:g=g'
  ·subst hg;by_cases hn:nm=rV
   ·subst hn;cases z3 with
    |false=>simp[e1,e2,e3,hb,he]
    |true=>
     cases z1 with
     |false=>simp[e1,e2,e3,hb,he]
     |true=>
      cases z2 with
      |false=>simp[e1,e2,e3,hb,he]
      |true=>
       cases z4 with
       |false=>simp[e1,e2,e3,hb,he]
       |true=>
        cases z5 with
        |false=>simp[e1,e2,e3,hb,he]
        |true=>simp[e1,e2,e3,hb,he]
   ·have:(nm==rV)=false:=by simpa using hn
    simp[hn,this]
  ·simp[eK hg]
 ·simp[eK hk]
theorem f147(l:List δ):∀(l':List δ),δ.cm l->δ.cm l'->δ.bC l<1000000000000->δ.bC l'<1000000000000->∀c c' m,kf u 147 [.list c (δ.χ l),.list c' (δ.χ l')] m=some (.bool (δ.iU l l'),m):=by refine δ.lists (P:=fun l=>∀(l':List δ),δ.cm l->δ.cm l'->δ.bC l<1000000000000->δ.bC l'<1000000000000->∀c c' m,kf u 147 [.list c (δ.χ l),.list c' (δ.χ l')] m=some (.bool (δ.iU l l'),m)) (fun l ih l' hl fO hw nS c c' m=>?_) l;refine RP (F:=210) rfl rfl rfl l l' hl fO hw nS (fun x hx y hy m=>?_) c c' m;have ox:=δ.gK hl x hx;have oy:=δ.gK fO y hy;have w1:=δ.kP hx;have w2:=δ.kP hy;have w3:=δ.xB x;have w4:=δ.xB y;exact f210 x y ox oy (by omega) (by omega) ((ih x hx).1 y.body (IB ox) (IB oy) (by omega) (by omega)) ((ih x hx).2 y.els (IC ox) (IC oy) (by omega) (by omega)) m
theorem f146(x y:ξ)(hx:x.Ok)(hy:y.Ok)(wx:x.wt<1000000000000)(wy:y.wt<1000000000000)(m:Mem):kf u 146 [x.av,y.av] m=some (.bool (x.eqv y),m):=by
 have fx:=ξ.jR hx;have fy:=ξ.jR hy;simp only[ξ.wt]at wx wy;have e1:=f145 (u:=u) x.au y.au;have e2:=f147 (u:=u) x.body y.body hx.2.2.2.2.1 hy.2.2.2.2.1 (by omega) (by omega);have e1:=fun c c'=>e1 c c' (by omega) (by omega);refine dt (g:=F7) rfl rfl rfl ?_;simp only[ax,aI,fx.lS,fy.lS];clear fx fy;simp only[ξ.av,ξ.eqv];generalize dC ai.eqv x.au y.au=z1 at e1⊢;generalize δ.iU x.body y.body=z2 at e2⊢;generalize x.au.map ai.av=A1 at e1⊢;generalize y.au.map ai.av=B1 at e1⊢;generalize δ.χ x.body=A2 at e2⊢;generalize δ.χ y.body=B2 at e2⊢;unfold F7 c146;by_cases hn:x.name=y.name
 ·cases z1 with
  |false=>simp[hn,e1,e2]
  |true=>simp[hn,e1,e2]
 ·have:(x.name==y.name)=false:=by simpa using hn
  simp[hn,this]
theorem f76(c c':τ)(hc:bm c)(gQ:bm c')(l l':List ξ)(hl:∀x∈l,x.Ok)(fO:∀x∈l',x.Ok)(hw:gC l<1000000000000)(nS:gC l'<1000000000000)(m:Mem):
  kf u 76 [.agg [.list c (l.map ξ.av)],.agg [.list c' (l'.map ξ.av)]] m=some (.bool (dC ξ.eqv l l'),m):=by
 have w1:=IN l;have w2:=IN l';have e:=Ap (u:=u) (f:=143) (sz:=3) (F:=146) (Z:=[.str [],.list .nil [],.list .nil []]) rfl rfl rfl rfl (fun p:ξ=>[.str p.name,.list p.cp (p.au.map ai.av),.list p.cb (δ.χ p.body)]) (fun p:ξ=>[.str p.name,.list p.cp (p.au.map ai.av),.list p.cb (δ.χ p.body)]) (fun _=>rfl) (fun _=>rfl) l l' (fun x hx=>ξ.jR (hl x hx)) (fun x hx=>ξ.jR (fO x hx)) ξ.eqv (fun a ha b hb m=>f146 a b (hl a ha) (fO b hb) (by have:=ξ.kP ha;omega) (by have:=ξ.kP hb;omega) m) c c' (by omega) (by omega);refine dt (g:=G') rfl rfl rfl ?_;have fx:Fx (.agg [.list c (l.map ξ.av)]):=by have:=Dv.list c (bL.of ξ.av l fun x hx=>ξ.jR (hl x hx));rw[fq hc]at this;exact .agg (.cons this .nil)
 have fy:Fx (.agg [.list c' (l'.map ξ.av)]):=by have:=Dv.list c' (bL.of ξ.av l' fun x hx=>ξ.jR (fO x hx));rw[fq gQ]at this;exact .agg (.cons this .nil)
 simp only[ax,aI,fx.lS,fy.lS];clear fx fy;have e':∀m,kf u 143 [.list c (l.map ξ.av),.list c' (l'.map ξ.av),.fn (.func 146) [] []] m=some (.bool (dC ξ.eqv l l'),m):=e;generalize l.map ξ.av=X at e'⊢;generalize l'.map ξ.av=Y at e'⊢;unfold G' c76;simp[e']
end Go.Δ.Tz
