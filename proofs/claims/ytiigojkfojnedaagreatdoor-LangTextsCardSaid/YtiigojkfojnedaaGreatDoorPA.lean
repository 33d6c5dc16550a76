import Derived.OrdersIn
import Derived.LoopNIn
import Derived.Deep.MidRow
import Derived.Below
set_option linter.unusedVariables false
set_option linter.unusedSimpArgs false
open Nat renaming min->ahv,le_refl->bQ,lt_of_lt_of_le->rP,lt_or_ge->bP,lt_irrefl->ahx,le_of_lt->y5,mul_le_mul_right->rQ,add_mul->kV,mul_comm->ahy,zero_add->ly
open Option renaming map_eq_some_iff->bL,isSome_none->ahz
open List renaming map_cons->ah,map_nil->aw,getElem_map->iG,mem_map->jv,length_map->dq,getElem_take->A5,getElem_drop->w_,mem_of_mem_drop->rL,mem_of_mem_take->oe,mem_iff_getElem->qH,range->rM,getElem?_map->Dy,getElem?_eq_none->iU,getElem?_range->ahw,getElem_range->IF,mem_range->A7,length_append->dB,length_cons->dO,length_nil->fq,getElem?_append_left->eg,getElem?_append_right->ti,getElem_append_left->A3,getElem_append_right->A4,mem_append->eL,length_set->ft,getElem_mem->cz,getElem?_eq_some_iff->lx,getD_eq_getElem?_getD->kT,getElem?_eq_getElem->eo,getElem?_toArray->IE,append_assoc->cr,nil_append->cO
open Bool renaming and_eq_true->kj,false_eq_true->hS
open Go.World renaming cell?->tm
open Option.some renaming injEq->bj
open Prod.mk renaming injEq->aL
namespace Go.ab
inductive Γ
 |nil
 |any
 |full
 |own (t:Nat)
 deriving DecidableEq
inductive AV
 |undef
 |dd
 |int (k:IntKind) (n:Int)
 |bool (b:Bool)
 |str (s:List Nat)
 |iR
 |Ω (d v off:Nat)
 |μ (id off:Nat)
 |ref (l:List AV)
 |list (c:Γ) (l:List AV)
 |sl (kd id off n cap:Nat)
 |agg (l:List AV)
 |aO (l:List AV)
 |fn (f:Fn) (first cap:List AV)
 |eU
 |iface (t:TypeId) (v:AV)
 |ga
 |map (id:Nat)
 |fP
 deriving Inhabited
def AV.cells:AV->List AV
 | .agg l=>l
 | .aO _=>[]
 | .undef=>[]
 |v=>[v]
def AV.one:AV->Bool
 | .agg _=>false
 | .aO _=>false
 | .undef=>false
 |_=>true
mutual
def AV.beq:AV->AV->Bool
 | .undef,.undef=>true
 | .dd,.dd=>true
 | .int k n,.int k' n'=>decide (k=k')&&decide (n=n')
 | .bool b,.bool b'=>b==b'
 | .str s,.str s'=>decide (s=s')
 | .iR,.iR=>true
 | .Ω d v o,.Ω d' v' o'=>decide (d=d')&&decide (v=v')&&decide (o=o')
 | .μ d o,.μ d' o'=>decide (d=d')&&decide (o=o')
 | .ref l,.ref l'=>AV.gh l l'
 | .list c l,.list c' l'=>decide (c=c')&&AV.gh l l'
 | .sl kd i o n c,.sl kd' i' o' n' c'=>decide (kd=kd')&&decide (i=i')&&decide (o=o')&&decide (n=n')&&decide (c=c')
 | .agg l,.agg l'=>AV.gh l l'
 | .aO l,.aO l'=>AV.gh l l'
 | .fn f a b,.fn f' a' b'=>decide (f=f')&&AV.gh a a'&&AV.gh b b'
 | .eU,.eU=>true
 | .iface t v,.iface t' v'=>decide (t=t')&&AV.beq v v'
 | .ga,.ga=>true
 | .map i,.map i'=>decide (i=i')
 | .fP,.fP=>true
 |_,_=>false
def AV.gh:List AV->List AV->Bool
 |[],[]=>true
 |a::l,b::l'=>AV.beq a b&&AV.gh l l'
 |_,_=>false
end
def Γ.exp(n:Nat)(k:Bool):Γ->Γ
 | .own t=>if k&&decide (t<n)then .own t else .any
 | .full=>if k then .full else .any
 | .any=> .any
 | .nil=> .nil
def Fn.below(n:Nat):Fn->Bool
 | .func _=>true
 | .yield l=>decide (l<n)
 |_=>false
mutual
def exp(n:Nat)(k:Bool):AV->AV
 | .Ω _ _ _=> .dd
 | .μ id off=>if id<n then .μ id off else .dd
 | .ref l=> .ref (bn n k l)
 | .list c l=> .list (c.exp n k) (bn n k l)
 | .sl kd id off m cap=>if id<n then .sl kd id off m cap else .dd
 | .agg l=> .agg (bn n k l)
 | .aO l=> .aO (bn n k l)
 | .fn f a b=>if Fn.below n f then .fn f (bn n k a) (bn n k b)else .dd
 | .iface t v=> .iface t (exp n k v)
 | .map id=>if id<n then .map id else .dd
 |v=>v
def bn(n:Nat)(k:Bool):List AV->List AV
 |[]=>[]
 |v::l=>exp n k v::bn n k l
end
mutual
def ρ:AV->AV
 | .Ω _ _ _=> .dd
 | .ref l=> .ref (cL l)
 | .list c l=> .list c (cL l)
 | .agg l=> .agg (cL l)
 | .aO l=> .aO (cL l)
 | .fn f a b=> .fn f (cL a) (cL b)
 | .iface t v=> .iface t (ρ v)
 |v=>v
def cL:List AV->List AV
 |[]=>[]
 |v::l=>ρ v::cL l
end
mutual
def cA(n:Nat)(hp:Nat->Nat->AV)(hs:Nat->Nat->Nat->Nat->AV):AV->AV
 | .Ω _ _ _=> .dd
 | .μ id off=>if id<n then .μ id off else hp id off
 | .ref l=> .ref (pc n hp hs l)
 | .list c l=> .list (c.exp n false) (pc n hp hs l)
 | .sl kd id off m cap=>if id<n then .sl kd id off m cap else hs kd id off m
 | .agg l=> .agg (pc n hp hs l)
 | .aO l=> .aO (pc n hp hs l)
 | .fn f a b=>if Fn.below n f then .fn f (pc n hp hs a) (pc n hp hs b)else .dd
 | .iface t v=> .iface t (cA n hp hs v)
 | .map id=>if id<n then .map id else .dd
 |v=>v
def pc(n:Nat)(hp:Nat->Nat->AV)(hs:Nat->Nat->Nat->Nat->AV):List AV->List AV
 |[]=>[]
 |v::l=>cA n hp hs v::pc n hp hs l
end
def chunk(s:Nat):Nat->List AV->List AV
 |0,_=>[]
 |m+1,l=> .agg (l.take s)::chunk s m (l.drop s)
theorem pd(n:Nat)(hp:Nat->Nat->AV)(hs:Nat->Nat->Nat->Nat->AV)(l:List AV):pc n hp hs l=l.map (cA n hp hs):=by
 induction l with
 |nil=>rfl
 |cons a l ih=>simp[pc,ih]
def Γ.lo(n:Nat):Γ->Bool
 | .own t=>decide (t<=n)
 |_=>true
mutual
def lo(n:Nat):AV->Bool
 | .μ id _=>decide (id<=n)
 | .ref l=>bh n l
 | .list c l=>c.lo n&&bh n l
 | .sl _ id _ _ _=>decide (id<=n)
 | .agg l=>bh n l
 | .aO l=>bh n l
 | .fn f a b=>Fn.below (n+1) f&&bh n a&&bh n b
 | .iface _ v=>lo n v
 | .map id=>decide (id<=n)
 |_=>true
def bh(n:Nat):List AV->Bool
 |[]=>true
 |v::l=>lo n v&&bh n l
end
mutual
def plain:AV->Bool
 | .undef| .dd| .int _ _| .bool _| .str _| .iR| .eU| .ga| .fP=>true
 | .Ω _ _ _=>false
 | .μ _ _=>false
 | .ref _=>false
 | .list c l=>(decide (c= .any)||decide (c= .nil))&&rA l
 | .sl _ _ _ _ _=>false
 | .agg l=>rA l
 | .aO l=>rA l
 | .fn (.func _) [] []=>true
 | .fn _ _ _=>false
 | .iface _ v=>plain v
 | .map _=>false
def rA:List AV->Bool
 |[]=>true
 |v::l=>plain v&&rA l
end
theorem fm(n:Nat)(k:Bool)(l:List AV):bn n k l=l.map (exp n k):=by
 induction l with
 |nil=>rfl
 |cons a l ih=>simp[bn,ih]
theorem fC(l:List AV):cL l=l.map ρ:=by
 induction l with
 |nil=>rfl
 |cons a l ih=>simp[cL,ih]
theorem mS(n:Nat)(l:List AV):bh n l=l.all (lo n):=by
 induction l with
 |nil=>rfl
 |cons a l ih=>simp[bh,ih]
def bq:List AV->Nat->AV
 |[],_=> .undef
 |v::_,0=>v
 |_::l,n+1=>bq l n
def rD:List AV->Nat->AV->List AV
 |[],0,v=>[v]
 |[],n+1,v=> .undef::rD [] n v
 |_::l,0,v=>v::l
 |a::l,n+1,v=>a::rD l n v
theorem gN(l:List AV)(i:Nat)(v:AV)(j:Nat):bq (rD l i v) j=if i=j then v else bq l j:=by
 induction i generalizing l j with
 |zero=>cases l<;>cases j<;>simp[rD,bq]
 |succ i ih=>
  cases l with
  |nil=>cases j with
   |zero=>simp[rD,bq]
   |succ j=>simp[rD,bq,ih]
  |cons a l=>cases j with
   |zero=>simp[rD,bq]
   |succ j=>simp[rD,bq,ih]
inductive bp
 |t (n:Nat)
 |c (v:AV)
 |g (n:Nat)
 deriving Inhabited
inductive KK
 |int
 |str
 |bool
 deriving DecidableEq,Inhabited
inductive NK
 |ptr
 |slice
 |fn
 |iface
 |map
 deriving DecidableEq,Inhabited
inductive CK
 |int (k:IntKind)
 |same
 |char
 deriving Inhabited
inductive AO
 |bad
 |mv (x:bp)
 |pick (c a b:bp)
 |alloc (qU:Bool) (zero:List AV)
 |box (qU:Bool) (n:Nat) (x:bp)
 |build (zero:List AV) (parts:List (Nat×Nat×bp))
 |bV (ag:Bool) (sz:Nat) (xs:List bp)
 |ld (ag:Bool) (n:Nat) (a:bp)
 |st (n:Nat) (a x:bp)
 |nE (x:bp)
 |bin (op:BinOp) (x y:bp)
 |eqs (neg:Bool) (ks:List KK) (x y:bp)
 |BJ (neg:Bool) (x y:bp)
 |Hk (neg:Bool) (k:NK) (x:bp)
 |un (op:UnOp) (x:bp)
 |conv (k:CK) (x:bp)
 |Mp (t:TypeId) (x:bp)
 |jq (f:Fn) (first cap:List bp)
 |fa (off:Nat) (x:bp)
 |kH (ag:Bool) (off n:Nat) (x:bp)
 |ia (sz:Nat) (x i:bp)
 |ri (len sz:Nat) (x i:bp)
 |Ar (ag:Bool) (len sz:Nat) (x i:bp)
 |kO (x i:bp)
 |lookup (kk:KK) (zero:AV) (ok:Bool) (m k:bp)
 |mapup (kk:KK) (m k v:bp)
 |mkmap
 |AM (sz:Nat) (x:bp) (lo hi mx:Option bp)
 |rE (x:bp) (lo hi:Option bp)
 |ext (x:bp) (k:Nat)
 |call (f:bp) (args:List bp)
 |app (ag:Bool) (sz bytes:Nat) (e:TypeId) (x y:bp)
 |len (x:bp)
 |lens (x:bp)
 |CS (x:bp)
 |Mf (n:Nat)
 |mkslc (kd:Nat) (zero:List AV) (bytes:Nat) (n c:bp)
 |cpy (sz:Nat) (x y:bp)
 |clr (zero:List AV) (x:bp)
 |del (kk:KK) (m k:bp)
 |max (x y:bp)
 |min (x y:bp)
 |abld (T e:TypeId)
 |qB (x:bp)
 |yH (x:bp)
 deriving Inhabited
structure aR where
 dst:Option Nat
 op:AO
 guard:Option (Nat×Bool)
 deriving Inhabited
inductive AC
 |skip
 |ops (l:List aR)
 |draw (l:List aR) (cf af:List (Nat×Nat))
 |seq (a b:AC)
 |cond (x:bp) (a b:AC)
 |block (id:Nat) (a:AC)
 |loop (a:AC)
 |exit (id:Nat)
 |ret
 |vd (f:bp) (ps:List Nat) (fH body:AC)
 |C7 (ds:List Nat)
 |bad
 deriving Inhabited
inductive LS
 |ready
 |busy
 |done (j:Option Nat)
 deriving DecidableEq,Inhabited
inductive θ
 |cells (l:List AV)
 |iter (s:List Nat) (pos:Nat)
 |dead
 |nL (T e:TypeId) (s:List Nat)
 |map (es:List (AV×AV))
 |front (n sz:Nat) (e:TypeId)
 |loop (env:List AV) (ps:List Nat) (fH body:AC) (st:LS)
 deriving Inhabited
abbrev Loc:=List (Nat×Nat×θ)
def bT:Loc->Nat->Option (Nat×θ)
 |[],_=>none
 |(d,x)::l,d'=>if d=d' then some x else bT l d'
def wH:Loc->Nat->(Nat×θ)->Loc
 |[],d,x=>[(d,x)]
 |(d,x)::l,d',x'=>if d=d' then(d',x')::l else(d,x)::wH l d' x'
theorem gF(l:Loc)(d:Nat)(x:Nat×θ)(d':Nat):bT (wH l d x) d'=if d=d' then some x else bT l d':=by
 induction l with
 |nil=>simp[wH,bT]
 |cons a l ih=>
  obtain⟨e,y⟩:=a
  by_cases h:e=d
  ·subst h;by_cases h':e=d'<;>simp[wH,bT,h']
  ·by_cases h':e=d'
   ·subst h';simp[wH,bT,h,Ne.symm h]
   ·simp[wH,bT,h,h',ih]
structure Mem where
 ε:List θ
 η:List Nat
 deriving Inhabited
def fy(l:List AV)(off:Nat)(vs:List AV):List AV:=l.take off++vs++l.drop (off+vs.length)
def rd(lk:Nat->Option (Nat×θ))(mem:Mem)(p:AV)(n:Nat):Option (List AV):=
 match p with
 | .Ω d v off=>
  match lk d with
  |some (v',.cells l)=>if v'=v/\off+n<=l.length then some ((l.drop off).take n)else none
  |_=>none
 | .μ id off=>
  match mem.ε[id]? with
  |some (.cells l)=>if off+n<=l.length then some ((l.drop off).take n)else none
  |_=>none
 | .ref l=>if n<=l.length then some (l.take n)else none
 |_=>none
abbrev lA:=Option (Nat×Nat×θ)
def Mem.put(m:Mem)(id:Nat)(b:θ)(ok:Bool):Mem:= {ε:=m.ε.set id b,η:=if ok then m.η else id::m.η}
def Mem.push(m:Mem)(b:θ):Mem:= {m with ε:=m.ε++[b]}
def Mem.ρ(_:Mem)(v:AV):AV:=ab.ρ v
def wr(lk:Nat->Option (Nat×θ))(mem:Mem)(p:AV)(vs:List AV):Option (lA×Mem):=
 match p with
 | .Ω d v off=>
  match lk d with
  |some (v',.cells l)=>if v'=v/\off+vs.length<=l.length then some (some (d,v,.cells (fy l off vs)),mem)else none
  |_=>none
 | .μ id off=>
  match mem.ε[id]? with
  |some (.cells l)=>if off+vs.length<=l.length then some (none,mem.put id (.cells (fy l off (vs.map mem.ρ))) (bh id (vs.map mem.ρ)))else none
  |_=>none
 |_=>none
def hU(op:BinOp)(k:IntKind)(a b:Int):Option AV:=
 match op with
 | .add=>some (.int k (k.wrap (a+b)))
 | .sub=>some (.int k (k.wrap (a-b)))
 | .mul=>some (.int k (k.wrap (a*b)))
 | .quo=>if b=0 then none else some (.int k (k.wrap (a.tdiv b)))
 | .rem=>if b=0 then none else some (.int k (a.tmod b))
 | .and=>some (.int k (k.wrap (BitVec.ofInt k.bits a&&&BitVec.ofInt k.bits b).toNat))
 | .or=>some (.int k (k.wrap (BitVec.ofInt k.bits a|||BitVec.ofInt k.bits b).toNat))
 | .xor=>some (.int k (k.wrap (BitVec.ofInt k.bits a^^^BitVec.ofInt k.bits b).toNat))
 | .andNot=>some (.int k (k.wrap (BitVec.ofInt k.bits a&&& ~~~BitVec.ofInt k.bits b).toNat))
 | .eql=>some (.bool (a==b))
 | .neq=>some (.bool (a !=b))
 | .lss=>some (.bool (decide (a<b)))
 | .leq=>some (.bool (decide (a<=b)))
 | .gtr=>some (.bool (decide (a>b)))
 | .geq=>some (.bool (decide (a≥b)))
 |_=>none
def wL:List Nat->List Nat->Bool
 |_,[]=>false
 |[],_::_=>true
 |a::x,b::y=>decide (a<b)||(decide (a=b)&&wL x y)
def bF(op:BinOp)(a b:List Nat):Option AV:=
 match op with
 | .add=>if((a.length+b.length:Nat):Int)>IntKind.i64.max then none else some (.str (a++b))
 | .eql=>some (.bool (decide (a=b)))
 | .neq=>some (.bool (!decide (a=b)))
 | .lss=>some (.bool (wL a b))
 | .leq=>some (.bool (wL a b||decide (a=b)))
 | .gtr=>some (.bool (!(wL a b||decide (a=b))))
 | .geq=>some (.bool (!wL a b))
 |_=>none
def gS(op:BinOp)(x y:AV):Option AV:=
 match x,y with
 | .int k a,.int k' b=>
  match op with
  | .shl=>if b<0 then none else some (.int k (k.wrap (a*2^ahv b.toNat k.bits)))
  | .shr=>if b<0 then none else some (.int k (a.fdiv (2^ahv b.toNat k.bits)))
  |_=>if k=k' then hU op k a b else none
 | .str a,.str b=>bF op a b
 |_,_=>none
def kq:List KK->List AV->List AV->Option Bool
 |[],[],[]=>some true
 | .int::ks,.int k a::l,.int k' b::l'=>if k=k' then(kq ks l l').map (decide (a=b)&&·)else none
 | .str::ks,.str a::l,.str b::l'=>(kq ks l l').map (decide (a=b)&&·)
 | .bool::ks,.bool a::l,.bool b::l'=>(kq ks l l').map ((a==b)&&·)
 |_,_,_=>none
def isNil:NK->AV->Option Bool
 | .ptr,.iR=>some true
 | .ptr,.Ω _ _ _=>some false
 | .ptr,.μ _ _=>some false
 | .ptr,.ref _=>some false
 | .slice,.list .nil _=>some true
 | .slice,.list _ _=>some false
 | .slice,.sl _ _ _ _ _=>some false
 | .fn,.eU=>some true
 | .fn,.fn _ _ _=>some false
 | .iface,.ga=>some true
 | .iface,.iface _ _=>some false
 | .map,.fP=>some true
 | .map,.map _=>some false
 |_,_=>none
def hZ(op:UnOp)(x:AV):Option AV:=
 match op,x with
 | .neg,.int k n=>some (.int k (k.wrap (0-n)))
 | .not,.bool b=>some (.bool !b)
 |_,_=>none
def mD(k:CK)(x:AV):Option AV:=
 match k,x with
 | .int k,.int _ n=>some (.int k (k.wrap n))
 | .same,.str s=>some (.str s)
 | .char,.int _ n=>some (.str ((Utf8.encode n).data.toList.map UInt8.toNat))
 |_,_=>none
def shaped(ag:Bool)(sz:Nat):AV->Bool
 | .agg l=>ag&&decide (l.length=sz)
 |v=>!ag&&v.one&&decide (sz=1)
def single:List AV->Option AV
 |[v]=>some v
 |_=>none
def gg(ag:Bool)(l:List AV):Option AV:=if ag then some (.agg l)else single l
def jF:AV->AV->Option Bool
 | .str a,.str b=>some (decide (a=b))
 | .int k a,.int k' b=>if k=k' then some (decide (a=b))else none
 | .bool a,.bool b=>some (a==b)
 |_,_=>none
def jo(k:AV):List (AV×AV)->Option (Option AV)
 |[]=>some none
 |(k',v)::l=>match jF k k' with
  |some true=>some (some v)
  |some false=>jo k l
  |none=>none
def tP(k v:AV):List (AV×AV)->Option (List (AV×AV))
 |[]=>some [(k,v)]
 |(k',v')::l=>match jF k k' with
  |some true=>some ((k,v)::l)
  |some false=>(tP k v l).map ((k',v')::·)
  |none=>none
def wI(k:AV):List (AV×AV)->Option (List (AV×AV))
 |[]=>some []
 |(k',v')::l=>match jF k k' with
  |some true=>some l
  |some false=>(wI k l).map ((k',v')::·)
  |none=>none
def isKey:KK->AV->Bool
 | .str,.str _=>true
 | .int,.int _ _=>true
 | .bool,.bool _=>true
 |_,_=>false
def bound(ev:bp->AV)(top:Nat):Option bp->Nat->Option Nat
 |none,Eg=>some Eg
 |some x,_=>match ev x with
  | .int _ n=>if 0<=n/\n<=top then some n.toNat else none
  |_=>none
def hH(p:AV)(off:Nat):Option AV:=
 match p with
 | .Ω d v o=>some (.Ω d v (o+off))
 | .μ id o=>some (.μ id (o+off))
 | .ref l=>if off<=l.length then some (.ref (l.drop off))else none
 |_=>none
def cX(ev:bp->AV):List (Nat×Nat×bp)->List AV->Option (List AV)
 |[],cs=>some cs
 |(off,size,x)::rest,cs=>if(ev x).cells.length=size/\off+size<=cs.length then cX ev rest (fy cs off (ev x).cells)else none
def aQ(lk:Nat->Option (Nat×θ))(d:Nat):Nat:=
 match lk d with
 |none=>0
 |some (v,_)=>v+1
def newVar(lk:Nat->Option (Nat×θ))(mem:Mem)(qU:Bool)(dst:Option Nat)(b:List AV):Option (AV×lA×Mem):=
 if qU then some (.μ mem.ε.length 0,none,mem.push (.cells (b.map mem.ρ)))
 else match dst with
  |some d=>some (.Ω d (aQ lk d) 0,some (d,aQ lk d,.cells b),mem)
  |none=>none
def ax(bs:List θ)(n:Nat):Nat->AV->AV
 |0=>exp n false
 |k+1=>cA n
   (fun id off=>match bs[id]? with
    |some (.cells l)=> .ref ((l.drop off).map (ax bs n k))
    |_=> .dd)
   (fun kd id off m=>match bs[id]? with
    |some (.cells l)=>if off+m*Nat.max kd 1<=l.length then
      (if kd=0 then(if((l.drop off).take m).all AV.one then .list .any (((l.drop off).take m).map (ax bs n k))else .dd)
      else .list .any (chunk kd m ((l.drop off).map (ax bs n k))))
     else .dd
    |_=> .dd)
def rep:Nat->List AV->List AV
 |0,_=>[]
 |n+1,z=>z++rep n z
def cellsOf(mem:Mem)(sz:Nat):AV->Option (Nat×List AV)
 | .list _ l=>if l.all (fun e=>decide (e.cells.length=sz))then some (l.length,l.flatMap AV.cells)else none
 | .sl _ id off n _=>match mem.ε[id]? with
  |some (.cells l)=>if off+n*sz<=l.length then some (n,(l.drop off).take (n*sz))else none
  |_=>none
 |_=>none
abbrev cM:=AV->List AV->Mem->Option (AV×Mem)
def gL(mem:Mem)(ag:Bool)(sz bytes:Nat)(e:TypeId)(x y:AV):Option (AV×Mem):=
 match x,y with
 | .list c l,.list _ m=>
  if m.all (shaped ag sz)&&l.all (shaped ag sz)&&decide (0<sz)&&decide ((l.length+m.length)*bytes<=140737488355328)&&decide (l.length+m.length<=140737488355328)then
   match c,m with
   |c,[]=>some (.list c l,mem)
   | .full,m=>some (.list (.own mem.ε.length) (l++m.map mem.ρ),mem.push (.front (l.length+m.length) sz e))
   | .nil,m=>some (.list (.own mem.ε.length) (l++m.map mem.ρ),mem.push (.front (l.length+m.length) sz e))
   | .own t,m=>match mem.ε[t]? with
    |some (.front n ff e')=>if n=l.length/\ff=sz/\e'=e then some (.list (.own t) (l++m.map mem.ρ),mem.put t (.front (l.length+m.length) sz e) true)else none
    |_=>none
   | .any,_=>none
  else none
 |_,_=>none
def aF(ev:bp->AV)(lk:Nat->Option (Nat×θ))(mem:Mem)(aH:cM)(dst:Option Nat)(o:AO):Option (AV×lA×Mem):=
 match o with
 | .bad=>none
 | .mv x=>some (ev x,none,mem)
 | .pick c a b=>match ev c with
  | .bool t=>some (if t then ev a else ev b,none,mem)
  |_=>none
 | .alloc qU z=>newVar lk mem qU dst z
 | .abld T e=>some (.μ mem.ε.length 0,none,mem.push (.nL T e []))
 | .box qU n x=>if(ev x).cells.length=n then newVar lk mem qU dst (ev x).cells else none
 | .build z parts=>(cX ev parts z).map fun l=>(.agg l,none,mem)
 | .bV ag sz xs=>if xs.all fun x=>shaped ag sz (ev x)then some (.list .full (xs.map fun x=>mem.ρ (ev x)),none,mem)else none
 | .ld ag n a=>match rd lk mem (ev a) n with
  |some l=>(gg ag l).map fun v=>(v,none,mem)
  |none=>none
 | .st n a x=>if(ev x).cells.length=n then(wr lk mem (ev a) (ev x).cells).map fun(u,m)=>(.undef,u,m)else none
 | .nE x=>match ev x with
  | .Ω d v o=>some (.Ω d v o,none,mem)
  | .μ id o=>some (.μ id o,none,mem)
  | .ref l=>some (.ref l,none,mem)
  | .fn (.func f) a b=>some (.fn (.func f) a b,none,mem)
  | .fn (.yield f) a b=>some (.fn (.yield f) a b,none,mem)
  |_=>none
 | .bin op x y=>(gS op (ev x) (ev y)).map fun v=>(v,none,mem)
 | .eqs neg ks x y=>match ev x,ev y with
  | .agg a,.agg b=>(kq ks a b).map fun t=>(.bool (if neg then !t else t),none,mem)
  |_,_=>none
 | .BJ neg x y=>match ev x,ev y with
  | .bool a,.bool b=>some (.bool (if neg then !(a==b)else a==b),none,mem)
  |_,_=>none
 | .Hk neg k x=>(isNil k (ev x)).map fun t=>(.bool (if neg then !t else t),none,mem)
 | .un op x=>(hZ op (ev x)).map fun v=>(v,none,mem)
 | .conv k x=>(mD k (ev x)).map fun v=>(v,none,mem)
 | .Mp t x=>some (.iface t (ev x),none,mem)
 | .jq f a b=>some (.fn f (a.map ev) (b.map ev),none,mem)
 | .fa off x=>(hH (ev x) off).map fun v=>(v,none,mem)
 | .kH ag off n x=>match ev x with
  | .agg l=>if off+n<=l.length then(gg ag ((l.drop off).take n)).map fun v=>(v,none,mem)else none
  |_=>none
 | .ia sz x i=>match ev x,ev i with
  | .list _ l,.int _ n=>if 0<=n/\n<l.length then
    match l[n.toNat]? with
    |some e=>if e.cells.length=sz then some (.ref e.cells,none,mem)else none
    |none=>none
   else none
  | .sl _ id off m _,.int _ n=>if 0<=n/\n<m then some (.μ id (off+n.toNat*sz),none,mem)else none
  |_,_=>none
 | .ri len sz x i=>match ev i with
  | .int _ n=>if 0<=n/\n<len then(hH (ev x) (n.toNat*sz)).map fun v=>(v,none,mem)else none
  |_=>none
 | .Ar ag len sz x i=>match ev x,ev i with
  | .agg l,.int _ n=>if 0<=n/\n<len/\l.length=len*sz then(gg ag ((l.drop (n.toNat*sz)).take sz)).map fun v=>(v,none,mem)else none
  |_,_=>none
 | .kO x i=>match ev x,ev i with
  | .str s,.int _ n=>if 0<=n then(s[n.toNat]?).map fun(b:Nat)=>(AV.int .u8 (Int.ofNat b),none,mem)else none
  |_,_=>none
 | .lookup kk zero ok m k=>match ev m with
  | .fP=>if isKey kk (ev k)then some (if ok then .aO [zero,.bool false]else zero,none,mem)else none
  | .map id=>match mem.ε[id]? with
   |some (.map es)=>if isKey kk (ev k)then(jo (ev k) es).map fun r=>match r with
     |some v=>(if ok then .aO [v,.bool true]else v,none,mem)
     |none=>(if ok then .aO [zero,.bool false]else zero,none,mem)
    else none
   |_=>none
  |_=>none
 | .mapup kk m k v=>match ev m with
  | .map id=>match mem.ε[id]? with
   |some (.map es)=>if isKey kk (ev k)&&plain (ev v)then(tP (ev k) (ev v) es).map fun eR=>(.undef,none,mem.put id (.map eR) true)else none
   |_=>none
  |_=>none
 | .mkmap=>some (.map mem.ε.length,none,mem.push (.map []))
 | .AM sz x lo hi mx=>match ev x with
  | .list c l=>if l.all fun e=>decide (e.cells.length=sz)then
    match bound ev l.length mx l.length with
    |some m=>match bound ev m hi l.length with
     |some h=>match bound ev h lo 0 with
      |some b=>some (.list (if c= .nil then .nil else if mx.isSome then(if m=h then .full else .any)else if c= .full/\h=l.length then .full else .any) ((l.take h).drop b),none,mem)
      |none=>none
     |none=>none
    |none=>none
   else none
  |_=>none
 | .rE x lo hi=>match ev x with
  | .str s=>match bound ev s.length hi s.length with
   |some h=>match bound ev h lo 0 with
    |some b=>some (.str ((s.take h).drop b),none,mem)
    |none=>none
   |none=>none
  |_=>none
 | .ext x k=>match ev x with
  | .aO l=>(l[k]?).map fun v=>(v,none,mem)
  |_=>none
 | .call f args=>(aH (ev f) (args.map ev) mem).map fun(v,m)=>(v,none,m)
 | .app ag sz bytes e x y=>(gL mem ag sz bytes e (ev x) (ev y)).map fun(v,m)=>(v,none,m)
 | .len x=>match ev x with
  | .list _ l=>some (.int .i64 l.length,none,mem)
  | .sl _ _ _ n _=>some (.int .i64 n,none,mem)
  |_=>none
 | .mkslc kd z bytes n c=>match ev n,ev c with
  | .int _ n,.int _ c=>if 0<=n/\n<=c/\(bytes:Int)*c<=281474976710656/\c<=9223372036854775807 then
    some (.sl kd mem.ε.length 0 n.toNat c.toNat,none,mem.push (.cells ((rep c.toNat z).map mem.ρ)))
   else none
  |_,_=>none
 | .cpy sz x y=>match ev x with
  | .sl _ id off n _=>match cellsOf mem sz (ev y)with
   |some (k,cs)=>(wr (fun _=>none) mem (.μ id off) (cs.take (ahv k n*sz))).map fun(_,m)=>(.int .i64 (ahv k n:Nat),none,m)
   |none=>none
  |_=>none
 | .clr z x=>match ev x with
  | .list _ []=>some (.undef,none,mem)
  | .sl _ id off n _=>if n=0 then some (.undef,none,mem)else(wr (fun _=>none) mem (.μ id off) (rep n z)).map fun(_,m)=>(.undef,none,m)
  |_=>none
 | .lens x=>match ev x with
  | .str s=>some (.int .i64 s.length,none,mem)
  |_=>none
 | .Mf n=>some (.int .i64 n,none,mem)
 | .CS x=>match ev x with
  | .fP=>some (.int .i64 0,none,mem)
  | .map id=>match mem.ε[id]? with
   |some (.map es)=>some (.int .i64 es.length,none,mem)
   |_=>none
  |_=>none
 | .del kk m k=>match ev m with
  | .map id=>match mem.ε[id]? with
   |some (.map es)=>if isKey kk (ev k)then(wI (ev k) es).map fun eR=>(.undef,none,mem.put id (.map eR) true)else none
   |_=>none
  |_=>none
 | .max x y=>match ev x,ev y with
  | .int k a,.int k' b=>if k=k' then some (.int k (if b>a then b else a),none,mem)else none
  |_,_=>none
 | .min x y=>match ev x,ev y with
  | .int k a,.int k' b=>if k=k' then some (.int k (if b<a then b else a),none,mem)else none
  |_,_=>none
 | .qB x=>match ev x,dst with
  | .str s,some d=>some (.Ω d (aQ lk d) 0,some (d,aQ lk d,.iter s 0),mem)
  |_,_=>none
 | .yH x=>match ev x with
  | .Ω d v 0=>match lk d with
   |some (v',.iter s pos)=>if v'=v then
     if pos<s.length then
      let r:=Utf8.decode ⟨(s.map UInt8.ofNat).toArray⟩ pos
      some (.aO [.bool true,.int .i64 pos,.int .i32 r.1],some (d,v,.iter s (pos+r.2)),mem)
     else some (.aO [.bool false],none,mem)
    else none
   |_=>none
  |_=>none
inductive Ex
 |normal
 |exit (id:Nat)
 |ret
 deriving DecidableEq,Inhabited
structure St where
 env:List AV
 loc:Loc
 mem:Mem
 deriving Inhabited
def d_(gl:Nat->AV)(env:List AV):bp->AV
 | .t n=>bq env n
 | .c v=>v
 | .g n=>gl n
def fz(env:List AV):Option (Nat×Bool)->Option Bool
 |none=>some true
 |some (d,want)=>match bq env d with
  | .bool b=>some (b==want)
  | .undef=>some false
  |_=>none
def fQ(env:List AV):Option Nat->AV->List AV
 |none,_=>env
 |some d,v=>rD env d v
def fe(loc:Loc):lA->Loc
 |none=>loc
 |some (d,v,b)=>wH loc d (v,b)
def eu(gl:Nat->AV)(aH:cM)(o:aR)(s:St):Option St:=
 match fz s.env o.guard with
 |none=>none
 |some true=>match aF (d_ gl s.env) (bT s.loc) s.mem aH o.dst o.op with
  |some (v,u,m)=>some {env:=fQ s.env o.dst v,loc:=fe s.loc u,mem:=m}
  |none=>none
 |some false=>some {s with env:=fQ s.env o.dst .undef}
def eG(gl:Nat->AV)(aH:cM):List aR->St->Option St
 |[],s=>some s
 |o::l,s=>match eu gl aH o s with
  |some s'=>eG gl aH l s'
  |none=>none
def dL(gl:Nat->AV)(aH:cM):List aR->St->Option (List St)
 |[],s=>some [s]
 |o::l,s=>match eu gl aH o s with
  |some s'=>(dL gl aH l s').map (s::·)
  |none=>none
def dG:Option (List AV)->Option (List AV)->Bool
 |some a,some b=>AV.gh a b
 |_,_=>false
def cj(l:List aR)(j:Nat):Bool:=match l[j]? with
 |some o=>match o.op with
  | .st _ _ _=>true
  |_=>false
 |none=>false
def b_(gl:Nat->AV)(l:List aR)(tr:List St)(i j:Nat):Bool:=
 match l[i]?,tr[i]?,tr[j]?,tr[j+1]? with
 |some o,some si,some sj,some Dj=>
  match fz si.env o.guard,o.op with
  |some false,_=>true
  |_,.ld _ n a=>match d_ gl si.env a with
   | .μ id off=>dG (rd (fun _=>none) sj.mem (.μ id off) n) (rd (fun _=>none) si.mem (.μ id off) n)&&
     dG (rd (fun _=>none) Dj.mem (.μ id off) n) (rd (fun _=>none) si.mem (.μ id off) n)
   | .Ω d v off=>!(cj l j)||dG (rd (bT sj.loc) {ε:=[],η:=[]} (.Ω d v off) n) (rd (bT si.loc) {ε:=[],η:=[]} (.Ω d v off) n)&&
     dG (rd (bT Dj.loc) {ε:=[],η:=[]} (.Ω d v off) n) (rd (bT si.loc) {ε:=[],η:=[]} (.Ω d v off) n)
   |_=>true
  |_,_=>false
 |_,_,_,_=>false
def mF(gl:Nat->AV)(l:List aR)(tr:List St)(i j:Nat):Bool:=
 match l[i]?,l[j]?,tr[j]? with
 |some oi,some o,some sj=>match o.op with
  | .ld _ _ a=>match d_ gl sj.env a with
   | .Ω d _ _=>oi.dst !=some d
   |_=>true
  |_=>false
 |_,_,_=>false
def er(gl:Nat->AV)(aH:cM)(l:List aR)(cf af:List (Nat×Nat))(s:St):Option St:=
 match dL gl aH l s with
 |some tr=>if cf.all (fun p=>b_ gl l tr p.1 p.2)&&af.all (fun p=>mF gl l tr p.1 p.2)then tr.getLast? else none
 |none=>none
abbrev oX:=(St->Option (Ex×St))->St->Option (Ex×St)
def θ.AH(n:Nat):θ->θ
 | .cells l=> .cells (l.map (exp n true))
 |b=>b
def θ.clean(id:Nat):θ->Bool
 | .cells l=>bh id l
 |_=>true
def lT(n:Nat):List Nat->List θ->List θ
 |[],bs=>bs
 |i::l,bs=>lT n l (match bs[i]? with
  |some b=>bs.set i (b.AH n)
  |none=>bs)
def Mem.back(m0 m:Mem):Mem:=
 let n:=m0.ε.length
 let bs:=lT n m.η (m.ε.take n)
 {ε:=bs,η:=m0.η++m.η.filter fun i=>match bs[i]? with
   |some b=>!b.clean i
   |none=>false}
def AV.yu:AV->Option AV
 | .fn (.func f) a b=>some (.fn (.func f) a b)
 |_=>none
def C8(d:Nat)(s:St):Option St:=
 match bq s.env d with
 | .Ω d' v 0=>match bT s.loc d with
  |some (v',.cells l)=>if d'=d/\v'=v then
    some {env:=rD s.env d (.μ s.mem.ε.length 0),loc:=wH s.loc d (v,.dead),mem:=s.mem.push (.cells (l.map s.mem.ρ))}else none
  |_=>none
 |_=>none
def AE:List Nat->St->Option St
 |[],s=>some s
 |d::l,s=>match C8 d s with
  |some s'=>AE l s'
  |none=>none
def exec(gl:Nat->AV)(aH:cM)(lp:oX):AC->St->Option (Ex×St)
 | .skip,s=>some (.normal,s)
 | .ops l,s=>(eG gl aH l s).map fun s'=>(.normal,s')
 | .draw l cf af,s=>(er gl aH l cf af s).map fun s'=>(.normal,s')
 | .seq a b,s=>match exec gl aH lp a s with
  |some (.normal,s')=>exec gl aH lp b s'
  |r=>r
 | .cond x a b,s=>match d_ gl s.env x with
  | .bool t=>if t then exec gl aH lp a s else exec gl aH lp b s
  |_=>none
 | .block id a,s=>match exec gl aH lp a s with
  |some (.exit i,s')=>if i=id then some (.normal,s')else some (.exit i,s')
  |r=>r
 | .loop a,s=>lp (exec gl aH lp a) s
 | .exit id,s=>some (.exit id,s)
 | .ret,s=>some (.ret,s)
 | .vd f ps fH body,s=>
  match(d_ gl s.env f).yu.bind fun f=>aH f [.fn (.yield s.mem.ε.length) [] []] {ε:=s.mem.ε++[.loop (s.env.map s.mem.ρ) ps fH body .ready],η:=[]}with
  |some (_,m)=>match m.ε[s.mem.ε.length]? with
   |some (.loop _ _ _ _ .ready)=>some (.normal,{s with mem:=s.mem.back m})
   |some (.loop _ _ _ _ (.done none))=>some (.ret,{s with mem:=s.mem.back m})
   |some (.loop _ _ _ _ (.done (some i)))=>some (.exit i,{s with mem:=s.mem.back m})
   |_=>none
  |none=>none
 | .C7 ds,s=>(AE ds s).map fun s'=>(.normal,s')
 | .bad,_=>none
def fG:Nat->oX
 |0,_,_=>none
 |n+1,body,s=>match body s with
  |some (.normal,s')=>fG n body s'
  |r=>r
inductive RV
 |tmp (t:Nat)
 |cell (a:Nat) (ag:Bool) (n:Nat)
 deriving Inhabited
structure AF where
 ntmps:Nat
 results:List RV
 code:AC
 deriving Inhabited
abbrev Prim:=List AV->Mem->Option (AV×Mem)
structure iT where
 gl:Nat->AV
 fs:Nat->Option AF
 jG:Nat->Option Prim
 bD:Nat->Bool
def RV.get(s:St):RV->Option AV
 | .tmp t=>some (bq s.env t)
 | .cell a ag n=>match rd (bT s.loc) s.mem (bq s.env a) n with
  |some l=>gg ag l
  |none=>none
def bf(s:St):List RV->Option (List AV)
 |[]=>some []
 |r::l=>match r.get s with
  |some v=>(bf s l).map (v::·)
  |none=>none
def ba:List AV->AV
 |[v]=>v
 |l=> .aO l
def fin(g:AF)(bD:Bool)(m0:Mem):Option (Ex×St)->Option (AV×Mem)
 |some (.exit _,_)=>none
 |some (_,s)=>match bf s g.results with
  |some l=>if bD then some (exp s.mem.ε.length true (ba l),{ε:=s.mem.ε,η:=m0.η++s.mem.η})
    else some (ax s.mem.ε m0.ε.length 8 (ba l),m0.back s.mem)
  |none=>none
 |none=>none
def t_:List AV->List Nat->List AV->List AV
 |env,[],_=>env
 |env,_,[]=>env
 |env,p::ps,v::vs=>t_ (rD env p v) ps vs
def Mem.iF(m:Mem)(l:Nat)(st:LS):Mem:=
 match m.ε[l]? with
 |some (.loop env ps fH body _)=> {m with ε:=m.ε.set l (.loop env ps fH body st)}
 |_=>m
def Mem.ls(m:Mem)(l:Nat):Option LS:=
 match m.ε[l]? with
 |some (.loop _ _ _ _ st)=>some st
 |_=>none
def round(ex:AC->St->Option (Ex×St))(l:Nat)(args:List AV)(mem:Mem):Option (AV×Mem):=
 match mem.ε[l]? with
 |some (.loop env ps fH body _)=>
  if ps.length=args.length then
   match ex fH {env:=t_ env ps (args.map (exp mem.ε.length false)),loc:=[],mem:=mem}with
   |some (.normal,s1)=>
    if s1.mem.ls l=some .ready then
     match ex body {s1 with mem:=s1.mem.iF l .busy}with
     |some (.normal,s2)=>if s2.mem.ls l=some .busy then some (.bool true,s2.mem.iF l .ready)else none
     |some (.ret,s2)=>if s2.mem.ls l=some .busy then some (.bool false,s2.mem.iF l (.done none))else none
     |some (.exit i,s2)=>if s2.mem.ls l=some .busy then some (.bool false,s2.mem.iF l (.done (some i)))else none
     |none=>none
    else none
   |_=>none
  else none
 |_=>none
def body(C:iT)(aH:cM)(lp:oX):cM:=fun fv args mem=>
 match fv with
 | .fn (.func f) first cap=>
  match C.jG f with
  |some p=>p ((first++args++cap).map (exp mem.ε.length (C.bD f))) mem
  |none=>match C.fs f with
   |some g=>fin g (C.bD f) mem (exec C.gl aH lp g.code
     {env:=(first++args++cap).map (exp mem.ε.length (C.bD f)),loc:=[],mem:= {ε:=mem.ε,η:=[]}})
   |none=>none
 | .fn (.yield l) [] []=>round (exec C.gl aH lp) l args mem
 |_=>none
def cv(C:iT):Nat->cM
 |0=>fun _ _ _=>none
 |n+1=>body C (cv C n) (fG n)
def cM.le(c c':cM):Prop:=∀fv args mem r,c fv args mem=some r->c' fv args mem=some r
def oX.le(l l':oX):Prop:=∀b b':St->Option (Ex×St),(∀s r,b s=some r->b' s=some r)->∀s r,l b s=some r->l' b' s=some r
theorem VI{ev lk mem dst o r}{c c':cM}(h:c.le c')(hr:aF ev lk mem c dst o=some r):aF ev lk mem c' dst o=some r:=by
 cases o<;>try exact hr
 case call f args=>
  simp only[aF,bL]at hr⊢
  obtain⟨x,hx,rfl⟩:=hr;exact⟨x,h _ _ _ _ hx,rfl⟩
theorem DP{gl o s r}{c c':cM}(h:c.le c')(hr:eu gl c o s=some r):eu gl c' o s=some r:=by
 unfold eu at hr⊢;split at hr
 ·cases hr
 ·split at hr
  ·rename_i he;rw[VI h he];exact hr
  ·cases hr
 ·exact hr
theorem NS{gl l s r}{c c':cM}(h:c.le c')(hr:eG gl c l s=some r):eG gl c' l s=some r:=by
 induction l generalizing s with
 |nil=>exact hr
 |cons o l ih=>
  simp only[eG]at hr⊢
  split at hr
  ·rename_i he;rw[DP h he];exact ih hr
  ·cases hr
theorem NX{gl l s r}{c c':cM}(h:c.le c')(hr:dL gl c l s=some r):dL gl c' l s=some r:=by
 induction l generalizing s r with
 |nil=>exact hr
 |cons o l ih=>
  simp only[dL]at hr⊢
  split at hr
  ·rename_i he;rw[DP h he];simp only[bL]at hr⊢;obtain⟨x,hx,rfl⟩:=hr;exact⟨x,ih hx,rfl⟩
  ·cases hr
theorem Vs{gl l cf af s r}{c c':cM}(h:c.le c')(hr:er gl c l cf af s=some r):er gl c' l cf af s=some r:=by
 unfold er at hr⊢;split at hr
 ·rename_i he;rw[NX h he];exact hr
 ·cases hr
theorem JI{gl}{c c':cM}{l l':oX}(h:c.le c')(hl:l.le l')(a:AC):∀s r,exec gl c l a s=some r->exec gl c' l' a s=some r:=by
 induction a with
 |skip=>intro s r hr;exact hr
 |ops x=>
  intro s r hr
  simp only[exec,bL]at hr⊢;obtain⟨x,hx,rfl⟩:=hr;exact⟨x,NS h hx,rfl⟩
 |draw x cf af=>
  intro s r hr
  simp only[exec,bL]at hr⊢;obtain⟨x,hx,rfl⟩:=hr;exact⟨x,Vs h hx,rfl⟩
 |seq a b eZ gZ=>
  intro s r hr
  simp only[exec]at hr⊢;split at hr
  ·rename_i he;rw[eZ _ _ he];exact gZ _ _ hr
  ·rename_i aj;rw[eZ _ _ hr];split
   ·rename_i he;rw[he]at hr;exact absurd hr (aj _)
   ·rfl
 |cond x a b eZ gZ=>
  intro s r hr
  simp only[exec]at hr⊢;split at hr
  ·split at hr
   ·rename_i he ht;simp only[ht,if_true];exact eZ _ _ hr
   ·rename_i he ht;simp only[ht];exact gZ _ _ hr
  ·cases hr
 |block id a eZ=>
  intro s r hr
  simp only[exec]at hr⊢;split at hr
  ·rename_i he;rw[eZ _ _ he];exact hr
  ·rename_i aj;rw[eZ _ _ hr];split
   ·rename_i he;rw[he]at hr;exact absurd hr (aj _ _)
   ·rfl
 |loop a eZ=>
  intro s r hr
  simp only[exec]at hr⊢;exact hl _ _ eZ _ _ hr
 |exit id=>intro s r hr;exact hr
 |ret=>intro s r hr;exact hr
 |vd f ps fH body _ _=>
  intro s r hr
  simp only[exec]at hr⊢;split at hr
  ·rename_i he;obtain⟨fv,h1,h2⟩:=Option.bind_eq_some_iff.1 he;rw[h1];simp only[Option.bind_some,h _ _ _ _ h2];exact hr
  ·cases hr
 |C7 ds=>intro s r hr;exact hr
 |bad=>intro s r hr;exact hr
theorem DN(n n':Nat)(h:n<=n'):oX.le (fG n) (fG n'):=by
 intro b b' hb s r hr;induction n generalizing n' s with
 |zero=>simp[fG]at hr
 |succ n ih=>
  obtain⟨m,rfl⟩:∃m,n'=m+1:=⟨n'-1,by omega⟩
  simp only[fG]at hr⊢;split at hr
  ·rename_i he;rw[hb _ _ he];exact ih m (by omega) _ hr
  ·rename_i aj;rw[hb _ _ hr];split
   ·rename_i he;rw[he]at hr;exact absurd hr (aj _)
   ·rfl
theorem afB{e e':AC->St->Option (Ex×St)}(h:∀a s r,e a s=some r->e' a s=some r){l args mem r}(hr:round e l args mem=some r):round e' l args mem=some r:=by
 unfold round at hr⊢;split at hr
 ·split at hr
  ·rename_i hlen;simp only[hlen,if_true];split at hr
   ·rename_i he;rw[h _ _ _ he];dsimp only at hr⊢;split at hr
    ·rename_i oK;simp only[oK,if_true];split at hr
     ·rename_i kJ;simp only[h _ _ _ kJ];exact hr
     ·rename_i kJ;simp only[h _ _ _ kJ];exact hr
     ·rename_i kJ;simp only[h _ _ _ kJ];exact hr
     ·cases hr
    ·cases hr
   ·cases hr
  ·cases hr
 ·cases hr
theorem Wh{C:iT}{c c':cM}{l l':oX}(h:c.le c')(hl:l.le l'):(body C c l).le (body C c' l'):=by
 intro fv args mem r hr;unfold body at hr⊢;split at hr
 ·split at hr
  ·exact hr
  ·split at hr
   ·rename_i hg;generalize he:exec C.gl c l _ _=x at hr;cases x with
    |none=>simp[fin]at hr
    |some x=>simp only[JI h hl _ _ _ he];exact hr
   ·cases hr
 ·exact afB (fun a s r=>JI h hl a s r) hr
 ·cases hr
theorem W4(C:iT)(n:Nat):(cv C n).le (cv C (n+1)):=by
 induction n with
 |zero=>intro fv args mem r hr;simp[cv]at hr
 |succ n ih=>exact Wh ih (DN _ _ (by omega))
theorem xu(C:iT){n n':Nat}(h:n<=n'):(cv C n).le (cv C n'):=by
 induction h with
 |refl=>exact fun _ _ _ _ h=>h
 |step _ ih=>exact fun _ _ _ _ h=>W4 C _ _ _ _ _ (ih _ _ _ _ h)
structure Gh where
 im:Nat->Nat->Option Value
 mb:Nat->Option Nat
 rows:Nat->Nat->Option (Nat×Nat)
abbrev LB:=Nat->Nat->Option Nat
def Gh.sub(g g':Gh):Prop:=
 (∀b o x,g.im b o=some x->g'.im b o=some x)/\(∀id b,g.mb id=some b->g'.mb id=some b)/\(∀t n x,g.rows t n=some x->g'.rows t n=some x)
def Gh.cut(g:Gh)(n:Nat):Gh:=
 {im:=g.im,mb:=fun id=>if id<n then g.mb id else none,rows:=fun t m=>if t<n then g.rows t m else none}
def nN(g:Gh)(n b o cap:Nat):Γ->Prop
 | .any=>True
 | .full=>cap=n
 | .nil=>False
 | .own t=>o=0/\g.rows t n=some (b,cap)
def cd:LB:=fun _ _=>none
def rJ(mb:Nat->Option Nat):Fn->Fn->Prop
 | .func f,.func f'=>f'=f
 | .yield i,.yield b=>mb i=some b
 |_,_=>False
theorem rJ.mono{mb mT:Nat->Option Nat}(hm:∀i b,mb i=some b->mT i=some b){f f':Fn}(h:rJ mb f f'):rJ mT f f':=by cases f<;>cases f'<;>first|exact h|exact hm _ _ h|exact h.elim
inductive VR (g:Gh):LB->AV->Value->Prop
 |undef (lb:LB):VR g lb .undef (.tuple #[])
 |dd (lb:LB) (x:Value) (h:x.oneCell'=true):VR g lb .dd x
 |int (lb:LB) (k:IntKind) (n:Int):VR g lb (.int k n) (.int k n)
 |bool (lb:LB) (b:Bool):VR g lb (.bool b) (.bool b)
 |str (lb:LB) (b:ByteArray) (s:List Nat) (h:b.data.toList.map UInt8.toNat=s):VR g lb (.str s) (.string b)
 |iR (lb:LB):VR g lb .iR (.pointer none)
 |Ω (lb:LB) (d v off b:Nat) (h:lb d v=some b):VR g lb (.Ω d v off) (.pointer (some ⟨b,off,none⟩))
 |μ (lb:LB) (id off b:Nat) (h:g.mb id=some b):VR g lb (.μ id off) (.pointer (some ⟨b,off,none⟩))
 |ref (lb:LB) (l:List AV) (b o:Nat) (xs:Nat->Value) (cJ:∀i,i<l.length->g.im b (o+i)=some (xs i)/\(xs i).oneCell'=true)
   (hv:∀i (h:i<l.length),VR g cd l[i] (xs i)):VR g lb (.ref l) (.pointer (some ⟨b,o,none⟩))
 |iQ (lb:LB):VR g lb (.list .nil []) (.slice none 0 0)
 |g_ (lb:LB) (c:Γ) (a:Addr) (cap:Nat) (hc:c= .any\/(c= .full/\cap=0)):VR g lb (.list c []) (.slice (some a) 0 cap)
 |sl (lb:LB) (kd id off n cap b:Nat) (hc:n<=cap) (h:g.mb id=some b):VR g lb (.sl kd id off n cap) (.slice (some ⟨b,off,none⟩) n cap)
 |list (lb:LB) (c:Γ) (l:List AV) (b o sz n cap:Nat) (xs:Nat->Nat->Value) (hn:l.length=n) (dp:n<=cap) (hc:nN g n b o cap c)
   (bm:∀e∈l,e.cells.length=sz)
   (cJ:∀i,i<n->∀j,j<sz->g.im b (o+(i*sz+j))=some (xs i j)/\(xs i j).oneCell'=true)
   (hv:∀i (h:i<l.length) j (hj:j<l[i].cells.length),VR g cd l[i].cells[j] (xs i j)):VR g lb (.list c l) (.slice (some ⟨b,o,none⟩) n cap)
 |agg (lb:LB) (l:List AV) (a:Array Value) (hs:a.size=l.length) (h1:∀i (h:i<a.size),a[i].oneCell'=true)
   (hv:∀i (h:i<l.length) (h':i<a.size),VR g lb l[i] a[i]):VR g lb (.agg l) (.agg a)
 |aO (lb:LB) (l:List AV) (a:Array Value) (hs:a.size=l.length)
   (hv:∀i (h:i<l.length) (h':i<a.size),VR g lb l[i] a[i]):VR g lb (.aO l) (.tuple a)
 |fn (lb:LB) (f f':Fn) (l m:List AV) (a b:Array Value) (hs:a.size=l.length) (ht:b.size=m.length)
   (hy:rJ g.mb f f')
   (hv:∀i (h:i<l.length) (h':i<a.size),VR g lb l[i] a[i]) (hw:∀i (h:i<m.length) (h':i<b.size),VR g lb m[i] b[i]):
   VR g lb (.fn f l m) (.func f' a b)
 |eU (lb:LB):VR g lb .eU .nilFunc
 |iface (lb:LB) (t:TypeId) (v:AV) (x:Value) (h:VR g lb v x):VR g lb (.iface t v) (.iface t x)
 |ga (lb:LB):VR g lb .ga .nilIface
 |map (lb:LB) (id b:Nat) (h:g.mb id=some b):VR g lb (.map id) (.map (some b))
 |fP (lb:LB):VR g lb .fP (.map none)
theorem PH{g g':Gh}{n b o cap:Nat}{c:Γ}(hg:g.sub g')(h:nN g n b o cap c):nN g' n b o cap c:=by
 cases c with
 |any=>trivial
 |full=>exact h
 |nil=>exact h
 |own t=>exact⟨h.1,hg.2.2 _ _ _ h.2⟩
theorem VR.mono{g g':Gh}{lb lb':LB}{v:AV}{x:Value}(hg:g.sub g')(hl:∀d i b,lb d i=some b->lb' d i=some b)(h:VR g lb v x):VR g' lb' v x:=by
 induction h generalizing lb' with
 |undef=>exact .undef _
 |dd _ x h=>exact .dd _ x h
 |int _ k n=>exact .int _ k n
 |bool _ b=>exact .bool _ b
 |str _ b s h=>exact .str _ b s h
 |iR=>exact .iR _
 |Ω _ d v off b h=>exact .Ω _ d v off b (hl _ _ _ h)
 |μ _ id off b h=>exact .μ _ id off b (hg.2.1 _ _ h)
 |ref _ l b o xs cJ _ ih=>exact .ref _ l b o xs (fun i hi=>⟨hg.1 _ _ _ (cJ i hi).1,(cJ i hi).2⟩) fun i hi=>ih i hi fun _ _ _ h=>h
 |iQ=>exact .iQ _
 |g_ _ c a cap hc=>exact .g_ _ c a cap hc
 |sl _ kd id off n cap b hc h=>exact .sl _ kd id off n cap b hc (hg.2.1 _ _ h)
 |list _ c l b o sz n cap xs hn dp hc bm cJ _ ih=>exact .list _ c l b o sz n cap xs hn dp (PH hg hc) bm (fun i hi j hj=>⟨hg.1 _ _ _ (cJ i hi j hj).1,(cJ i hi j hj).2⟩) fun i hi j hj=>ih i hi j hj fun _ _ _ h=>h
 |agg _ l a hs h1 _ ih=>exact .agg _ l a hs h1 fun i hi ae=>ih i hi ae hl
 |aO _ l a hs _ ih=>exact .aO _ l a hs fun i hi ae=>ih i hi ae hl
 |fn _ f f' l m a b hs ht hy _ _ kN gq=>exact .fn _ f f' l m a b hs ht (hy.mono hg.2.1) (fun i hi ae=>kN i hi ae hl) (fun i hi ae=>gq i hi ae hl)
 |eU=>exact .eU _
 |iface _ t v x _ ih=>exact .iface _ t v x (ih hl)
 |ga=>exact .ga _
 |map _ id b h=>exact .map _ id b (hg.2.1 _ _ h)
 |fP=>exact .fP _
theorem Gh.eP(g:Gh):g.sub g:=⟨fun _ _ _ h=>h,fun _ _ h=>h,fun _ _ _ h=>h⟩
theorem Gh.Dl{a b c:Gh}(h:a.sub b)(k:b.sub c):a.sub c:=
 ⟨fun _ _ _ x=>k.1 _ _ _ (h.1 _ _ _ x),fun _ _ x=>k.2.1 _ _ (h.2.1 _ _ x),fun _ _ _ x=>k.2.2 _ _ _ (h.2.2 _ _ _ x)⟩
theorem VR.sub{g g':Gh}{lb:LB}{v:AV}{x:Value}(hg:g.sub g')(h:VR g lb v x):VR g' lb v x:=h.mono hg fun _ _ _ h=>h
theorem D'(n:Nat)(k:Bool)(v:AV):(exp n k v).cells=v.cells.map (exp n k):=by
 cases v with
 |μ id off=>simp only[exp,AV.cells,ah,aw];by_cases h:id<n<;>simp[h]
 |fn f a b=>simp only[exp,AV.cells,ah,aw];by_cases h:Fn.below n f=true<;>simp[h]
 |map id=>simp only[exp,AV.cells,ah,aw];by_cases h:id<n<;>simp[h]
 |sl kd id off m cap=>simp only[exp,AV.cells,ah,aw];by_cases h:id<n<;>simp[h]
 |_=>simp[exp,AV.cells,fm]
theorem PG{g:Gh}{n b o cap m:Nat}{k:Bool}{c:Γ}(h:nN g n b o cap c):nN (g.cut m) n b o cap (c.exp m k):=by
 cases c with
 |any=>trivial
 |nil=>exact h
 |full=>
  simp only[Γ.exp]
  split
  ·exact h
  ·trivial
 |own t=>
  simp only[Γ.exp]
  split
  ·rename_i hk;simp only[kj,decide_eq_true_eq]at hk;exact⟨h.1,by simp only[Gh.cut,hk.2,if_true];exact h.2⟩
  ·trivial
theorem VR.exp{g:Gh}{lb lb':LB}{v:AV}{x:Value}(m:Nat)(k:Bool)(h:VR g lb v x):VR (g.cut m) lb' (exp m k v) x:=by
 induction h generalizing lb' with
 |undef=>exact .undef _
 |dd _ x h=>exact .dd _ x h
 |int _ k n=>exact .int _ k n
 |bool _ b=>exact .bool _ b
 |str _ b s h=>exact .str _ b s h
 |iR=>exact .iR _
 |Ω _ d v off b h=>exact .dd _ _ rfl
 |μ _ id off b h=>
  simp only[ab.exp]
  split
  ·rename_i hi;exact .μ _ id off b (by simp only[Gh.cut,hi,if_true];exact h)
  ·exact .dd _ _ rfl
 |ref _ l b o xs cJ _ ih=>
  simp only[ab.exp,fm]
  refine .ref _ _ b o xs (fun i hi=>cJ i (by simpa using hi)) (fun i hi=>?_);simp only[iG];exact ih i (by simpa using hi)
 |iQ=>
  simp only[ab.exp,fm,aw,Γ.exp]
  exact .iQ _
 |g_ _ c a cap hc=>
  simp only[ab.exp,fm,aw]
  refine .g_ _ _ a cap ?_;rcases hc with rfl|⟨rfl,h⟩
  ·exact .inl rfl
  ·simp only[Γ.exp];split
   ·exact .inr ⟨rfl,h⟩
   ·exact .inl rfl
 |sl _ kd id off n cap b hc h=>
  simp only[ab.exp]
  split
  ·rename_i hi;exact .sl _ kd id off n cap b hc (by simp only[Gh.cut,hi,if_true];exact h)
  ·exact .dd _ _ rfl
 |list _ c l b o sz n cap xs hn dp hc bm cJ _ ih=>
  simp only[ab.exp,fm]
  refine .list _ _ _ b o sz n cap xs (by simpa using hn) dp (PG hc) ?_ cJ ?_
  ·intro e he;obtain⟨e',gW,rfl⟩:=jv.1 he;rw[D',dq];exact bm e' gW
  ·intro i hi j hj;have ae:i<l.length:=by simpa using hi
   have dD:j<l[i].cells.length:=by simpa[D']using hj
   have:=ih i ae j dD (lb':=cd);simpa[D']using this
 |agg _ l a hs h1 _ ih=>
  simp only[ab.exp,fm]
  refine .agg _ _ a (by simpa using hs) h1 fun i hi ae=>?_;simp only[iG];exact ih i (by simpa using hi) ae
 |aO _ l a hs _ ih=>
  simp only[ab.exp,fm]
  refine .aO _ _ a (by simpa using hs) fun i hi ae=>?_;simp only[iG];exact ih i (by simpa using hi) ae
 |fn _ f f' l m' a b hs ht hy _ _ kN gq=>
  simp only[ab.exp,fm]
  split
  ·rename_i hf;refine .fn _ f f' _ _ a b (by simpa using hs) (by simpa using ht) ?_ (fun i hi ae=>?_) (fun i hi ae=>?_)
   ·cases f<;>cases f'<;>first|exact hy|exact hy.elim|skip
    simp only[Fn.below,decide_eq_true_eq]at hf;simp only[rJ,Gh.cut,hf,if_true];exact hy
   ·simp only[iG];exact kN i (by simpa using hi) ae
   ·simp only[iG];exact gq i (by simpa using hi) ae
  ·exact .dd _ _ rfl
 |eU=>exact .eU _
 |iface _ t v x _ ih=>exact .iface _ t _ x ih
 |ga=>exact .ga _
 |map _ id b h=>
  simp only[ab.exp]
  split
  ·rename_i hi;exact .map _ id b (by simp only[Gh.cut,hi,if_true];exact h)
  ·exact .dd _ _ rfl
 |fP=>exact .fP _
theorem Ea(v:AV):(ρ v).cells=v.cells.map ρ:=by cases v<;>simp[ρ,AV.cells,fC]
theorem VR.ρ{g:Gh}{lb lb':LB}{v:AV}{x:Value}(h:VR g lb v x):VR g lb' (ρ v) x:=by
 induction h generalizing lb' with
 |undef=>exact .undef _
 |dd _ x h=>exact .dd _ x h
 |int _ k n=>exact .int _ k n
 |bool _ b=>exact .bool _ b
 |str _ b s h=>exact .str _ b s h
 |iR=>exact .iR _
 |Ω _ d v off b h=>exact .dd _ _ rfl
 |μ _ id off b h=>exact .μ _ id off b h
 |ref _ l b o xs cJ _ ih=>
  simp only[ab.ρ,fC]
  refine .ref _ _ b o xs (fun i hi=>cJ i (by simpa using hi)) (fun i hi=>?_);simp only[iG];exact ih i (by simpa using hi)
 |iQ=>
  simp only[ab.ρ,fC,aw]
  exact .iQ _
 |g_ _ c a cap hc=>
  simp only[ab.ρ,fC,aw]
  exact .g_ _ c a cap hc
 |sl _ kd id off n cap b hc h=>exact .sl _ kd id off n cap b hc h
 |list _ c l b o sz n cap xs hn dp hc bm cJ _ ih=>
  simp only[ab.ρ,fC]
  refine .list _ _ _ b o sz n cap xs (by simpa using hn) dp hc ?_ cJ ?_
  ·intro e he;obtain⟨e',gW,rfl⟩:=jv.1 he;rw[Ea,dq];exact bm e' gW
  ·intro i hi j hj;have ae:i<l.length:=by simpa using hi
   have dD:j<l[i].cells.length:=by simpa[Ea]using hj
   have:=ih i ae j dD (lb':=cd);simpa[Ea]using this
 |agg _ l a hs h1 _ ih=>
  simp only[ab.ρ,fC]
  refine .agg _ _ a (by simpa using hs) h1 fun i hi ae=>?_;simp only[iG];exact ih i (by simpa using hi) ae
 |aO _ l a hs _ ih=>
  simp only[ab.ρ,fC]
  refine .aO _ _ a (by simpa using hs) fun i hi ae=>?_;simp only[iG];exact ih i (by simpa using hi) ae
 |fn _ f f' l m' a b hs ht hy _ _ kN gq=>
  simp only[ab.ρ,fC]
  refine .fn _ f f' _ _ a b (by simpa using hs) (by simpa using ht) hy (fun i hi ae=>?_) (fun i hi ae=>?_)
  ·simp only[iG];exact kN i (by simpa using hi) ae
  ·simp only[iG];exact gq i (by simpa using hi) ae
 |eU=>exact .eU _
 |iface _ t v x _ ih=>exact .iface _ t _ x ih
 |ga=>exact .ga _
 |map _ id b h=>exact .map _ id b h
 |fP=>exact .fP _
theorem VR.cells{g:Gh}{lb:LB}{v:AV}{x:Value}(h:VR g lb v x)(hn:v.cells≠[]):
  x.cells.size=v.cells.length/\(∀i (hi:i<v.cells.length) (ae:i<x.cells.size),VR g lb v.cells[i] x.cells[i])/\(∀i (ae:i<x.cells.size),x.cells[i].oneCell'=true):=by
 cases h with
 |undef=>exact absurd rfl hn
 |aO _ l a hs hv=>exact absurd rfl hn
 |agg _ l a hs h1 hv=>exact⟨hs,fun i hi ae=>hv i hi ae,h1⟩
 |dd _ x h=>
  have hx:x.cells= #[x]:=by cases x<;>simp_all [Value.cells,Value.oneCell']
  refine⟨by simp[hx,AV.cells],fun i hi ae=>?_,fun i ae=>?_⟩
  ·have:i=0:=by simpa[AV.cells]using hi
   subst this;simp only[hx,AV.cells];exact .dd _ x h
  ·have:i=0:=by simpa[hx]using ae
   subst this;simpa[hx]using h
 |_=>
  refine⟨by simp[Value.cells,AV.cells],fun i hi ae=>?_,fun i ae=>?_⟩
  ·have:i=0:=by simpa[AV.cells]using hi
   subst this;simp only[Value.cells,AV.cells,List.getElem_cons_zero,List.getElem_toArray];constructor<;>assumption
  ·have:i=0:=by simpa[Value.cells]using ae
   subst this;simp[Value.cells,Value.oneCell']
open Go.RowKit (Below)
inductive Own
 |m (id:Nat)
 |l (d:Nat)
abbrev OW:=Nat->Option Own
abbrev eX:=Nat->AC->Code->Prop
def qF(g:Gh)(lb:LB)(own:OW)(w:World)(nm:Own)(b:Nat)(l:List AV):Prop:=
 own b=some nm/\(∀o,g.im b o=none)/\∃(a:Array Value) (e:TypeId),w.heap[b]?=some (.cells a e (0,0))/\a.size=l.length∧
  (∀i (h:i<l.length) (h':i<a.size),VR g lb l[i] a[i])/\∀i (h':i<a.size),a[i].oneCell'=true
def NA:LS->Loop->Prop
 | .ready,L=>L.state= .ready/\L.pending.isNone
 | .busy,L=>L.state= .busy
 | .done none,L=>L.state= .done/\(match L.pending with|some .ret=>True|_=>False)
 | .done (some i),L=>L.state= .done/\(match L.pending with|some (.exit j)=>j=i|_=>False)
def s_(g:Gh)(own:OW)(LC:eX)(w:World)(id:Nat):θ->Prop
 | .cells l=>∃b,g.mb id=some b/\qF g cd own w (.m id) b l
 | .iter _ _=>False
 | .dead=>True
 | .nL T e s=>∃b,g.mb id=some b/\own b=some (.m id)/\(∀o,g.im b o=none)/\∃(p v:Value),w.heap[b]?=some (.cells #[p,v] T (0,0))∧
   (p= .pointer none\/p= .pointer (some ⟨b,0,none⟩))/\(∀x∈s,x<256)∧
   ((v= .slice none 0 0/\s=[])\/∃(r cap:Nat) (cur:Array Value),v= .slice (some ⟨r,0,none⟩) s.length cap/\own r=some (.m id)/\r≠b/\(∀o,g.im r o=none)/\s≠[]∧
    w.heap[r]?=some (.cells cur e (0,0))/\cur.size=cap/\s.length<=cap/\cap<=maxLen/\∀i (h:i<s.length),cur[i]?=some (.int .u8 s[i]))
 | .map es=>∃b,g.mb id=some b/\own b=some (.m id)/\(∀o,g.im b o=none)/\∃(a:Array MapEntry) (clock:Nat),w.heap[b]?=some (.map a clock)/\a.size=es.length∧
   (∀i (h:i<es.length) (h':i<a.size),VR g cd es[i].1 a[i].key/\VR g cd es[i].2 a[i].val)/\∀p∈es,plain p.1=true/\plain p.2=true
 | .front n sz e=>0<sz/\∃b cap,g.rows id n=some (b,cap)/\n<=cap/\own b=some (.m id)/\(∃a:Array Value,w.heap[b]?=some (.cells a e (0,0))/\a.size=cap*sz)∧
   (∀o,n*sz<=o->g.im b o=none)/\(∀m x,g.rows id m=some x->m<=n)/\g.mb id=none
 | .loop env ps fH body st=>∃b,g.mb id=some b/\own b=some (.m id)/\(∀o,g.im b o=none)/\∃(L:Loop) (N:Nat),w.heap[b]?=some (.loop L)∧
   (∀t,VR g cd (bq env t) (L.tmps.getD t undef))/\L.params=ps.toArray/\N<=L.tmps.size/\(∀p∈ps,p<N)/\LC N fH L.assign/\LC N body L.body/\NA st L∧
   ∀t,∃(g0:Gh) (x0:Value),(∀i b,g0.mb i=some b->i<id)/\(∀i m y,g0.rows i m=some y->i<id)/\VR g0 cd (bq env t) x0
structure bc (g:Gh) (own:OW) (LC:eX) (mem:Mem) (w:World):Prop where
 ja:∀id b,g.mb id=some b->id<mem.ε.length
 nF:∀t n x,g.rows t n=some x->t<mem.ε.length
 blk:∀id blk,mem.ε[id]?=some blk->s_ g own LC w id blk
 im:∀b o x,g.im b o=some x->w.cell? ⟨b,o,none⟩=some x
structure cQ (g:Gh) (lb:LB) (own:OW) (loc:Nat->Option (Nat×θ)) (w:World):Prop where
 cells:∀d v l,loc d=some (v,.cells l)->∃b,lb d v=some b/\qF g lb own w (.l d) b l
 iter:∀d v s pos,loc d=some (v,.iter s pos)->∃b,lb d v=some b/\own b=some (.l d)/\(∀o,g.im b o=none)∧
   ∃bs:ByteArray,w.heap[b]?=some (.stringIter bs pos)/\bs.data.toList.map UInt8.toNat=s
 vk:∀d v b,lb d v=some b->∃v' blk,loc d=some (v',blk)/\v<=v'
structure bZ (base:Nat) (own:OW) (w:World):Prop where
 ge:∀b o,own b=some o->base<=b/\b<w.heap.size
 base:base<=w.heap.size
structure ep (g:Gh) (own:OW) (w:World) (g':Gh) (aK:OW) (w':World):Prop where
 sub:g.sub g'
 size:w.heap.size<=w'.heap.size
 os:w'.os=w.os
 tape:w'.tape=w.tape
 output:w'.output=w.output
 bD:∀b,b<w.heap.size->own b=none->w'.heap[b]?=w.heap[b]?
 kg:∀b,b<w.heap.size->own b=none->aK b=none
 im:∀b,b<w.heap.size->own b=none->∀o,g'.im b o=g.im b o
theorem ep.refl(g:Gh)(own:OW)(w:World):ep g own w g own w:=
 ⟨g.eP,bQ _,rfl,rfl,rfl,fun _ _ _=>rfl,fun _ _ h=>h,fun _ _ _ _=>rfl⟩
theorem ep.trans{g1 g2 g3:Gh}{o1 o2 o3:OW}{w1 w2 w3:World}(h:ep g1 o1 w1 g2 o2 w2)(k:ep g2 o2 w2 g3 o3 w3):ep g1 o1 w1 g3 o3 w3:= {
 sub:=Gh.Dl h.sub k.sub
 size:=Nat.le_trans h.size k.size
 os:=k.os.trans h.os
 tape:=k.tape.trans h.tape
 output:=k.output.trans h.output
 bD b hb ho:=(k.bD b (rP hb h.size) (h.kg b hb ho)).trans (h.bD b hb ho)
 kg b hb ho:=k.kg b (rP hb h.size) (h.kg b hb ho)
 im b hb ho o:=(k.im b (rP hb h.size) (h.kg b hb ho) o).trans (h.im b hb ho o)}
theorem ep.below{base:Nat}{g g':Gh}{own aK:OW}{w w':World}(h:ep g own w g' aK w')(ho:bZ base own w):Below base w w':=
 ⟨h.os,h.tape,h.output,h.size,fun k hk=>h.bD k (rP hk ho.base) (by
  cases hx:own k with
  |none=>rfl
  |some o=>have:=(ho.ge k o hx).1;omega)⟩
theorem pO{w w':World}{b o:Nat}(h:w'.heap[b]?=w.heap[b]?):w'.cell? ⟨b,o,none⟩=w.cell? ⟨b,o,none⟩:=by simp[tm,h]
theorem qF.bD{g g':Gh}{lb lb':LB}{own aK:OW}{w w':World}{nm:Own}{b:Nat}{l:List AV}(h:qF g lb own w nm b l)
  (hg:g.sub g') (hl:∀d i b,lb d i=some b->lb' d i=some b) (ho:aK b=own b) (hw:w'.heap[b]?=w.heap[b]?) (hi:∀o,g'.im b o=g.im b o):qF g' lb' aK w' nm b l:=by
 obtain⟨h1,h2,a,e,h3,h4,h5,h6⟩:=h;exact⟨ho.trans h1,fun o=>(hi o).trans (h2 o),a,e,hw.trans h3,h4,fun i hi ae=>(h5 i hi ae).mono hg hl,h6⟩
theorem s_.bD{g g':Gh}{own aK:OW}{LC:eX}{w w':World}{id:Nat}{blk:θ}(h:s_ g own LC w id blk)(hg:g.sub g')
  (hb:∀b,own b=some (.m id)->aK b=own b/\w'.heap[b]?=w.heap[b]?/\∀o,g'.im b o=g.im b o)
  (hr:∀n,g.rows id n=none->g'.rows id n=none) (hm:g.mb id=none->g'.mb id=none):s_ g' aK LC w' id blk:=by
 cases blk with
 |cells l=>
  obtain⟨b,h1,h2⟩:=h
  obtain⟨k1,k2,k3⟩:=hb b h2.1;exact⟨b,hg.2.1 _ _ h1,h2.bD hg (fun _ _ _ h=>h) k1 k2 k3⟩
 |iter s pos=>exact h
 |dead=>trivial
 |nL T e s=>
  obtain⟨b,h1,h2,h3,p,v,h4,h5,h6,h7⟩:=h
  obtain⟨k1,k2,k3⟩:=hb b h2;refine⟨b,hg.2.1 _ _ h1,k1.trans h2,fun o=>(k3 o).trans (h3 o),p,v,k2.trans h4,h5,h6,?_⟩;rcases h7 with h7|⟨r,cap,cur,q1,q2,q3,q4,q5,q6,q7⟩
  ·exact .inl h7
  ·obtain⟨l1,l2,l3⟩:=hb r q2;exact .inr ⟨r,cap,cur,q1,l1.trans q2,q3,fun o=>(l3 o).trans (q4 o),q5,l2.trans q6,q7⟩
 |map es=>
  obtain⟨b,h1,h2,h3,a,c,h4,h5,h6,h7⟩:=h
  obtain⟨k1,k2,k3⟩:=hb b h2;exact⟨b,hg.2.1 _ _ h1,k1.trans h2,fun o=>(k3 o).trans (h3 o),a,c,k2.trans h4,h5,fun i hi ae=>⟨(h6 i hi ae).1.sub hg,(h6 i hi ae).2.sub hg⟩,h7⟩
 |front n sz e=>
  obtain⟨h0,b,cap,h1,h2,h3,⟨a,h4,h5⟩,h6,h7,h8⟩:=h
  obtain⟨k1,k2,k3⟩:=hb b h3;refine⟨h0,b,cap,hg.2.2 _ _ _ h1,h2,k1.trans h3,⟨a,k2.trans h4,h5⟩,fun o ho=>(k3 o).trans (h6 o ho),fun m x hx=>?_,hm h8⟩;cases hy:g.rows id m with
  |none=>rw[hr m hy]at hx;cases hx
  |some y=>exact h7 m y hy
 |loop env ps fH body st=>
  obtain⟨b,h1,h2,h3,L,N,h4,h5,h6⟩:=h
  obtain⟨k1,k2,k3⟩:=hb b h2;exact⟨b,hg.2.1 _ _ h1,k1.trans h2,fun o=>(k3 o).trans (h3 o),L,N,k2.trans h4,fun t=>(h5 t).sub hg,h6⟩
theorem Ur{g:Gh}{lb:LB}{own:OW}{LC:eX}{loc:Nat->Option (Nat×θ)}{mem:Mem}{w:World}(hm:bc g own LC mem w)(hl:cQ g lb own loc w)
  {p:AV} {x:Value} {n:Nat} {cs:List AV} (hp:VR g lb p x) (hr:rd loc mem p n=some cs):
  ∃(b o:Nat) (vs:List Value),x= .pointer (some ⟨b,o,none⟩)/\vs.length=n/\cs.length=n/\w.rangeAt b o vs∧
   (∀i (h:i<cs.length) (h':i<vs.length),VR g lb cs[i] vs[i])/\∀v∈vs,v.oneCell'=true:=by
 have key:∀(b off:Nat) (l:List AV) (lb':LB) (nm:Own),qF g lb' own w nm b l->(∀d i b,lb' d i=some b->lb d i=some b)->off+n<=l.length->cs=(l.drop off).take n→
   ∃vs:List Value,vs.length=n/\cs.length=n/\w.rangeAt b off vs/\(∀i (h:i<cs.length) (h':i<vs.length),VR g lb cs[i] vs[i])/\∀v∈vs,v.oneCell'=true:=by
  rintro b off l lb' nm ⟨_,_,a,e,h3,h4,h5,h6⟩ pv hle rfl
  refine⟨(a.toList.drop off).take n,by simp;omega,by simp;omega,?_,?_,?_⟩
  ·intro j v hv;rw[List.getElem?_take]at hv;split at hv
   ·rw[List.getElem?_drop]at hv;simpa[tm,h3]using hv
   ·cases hv
  ·intro i h h';simp only[A5,w_,Array.getElem_toList];have hi:i<n:=by simp at h;omega
   exact(h5 (off+i) (by omega) (by omega)).mono g.eP pv
  ·intro v hv;have:=rL (oe hv);obtain⟨i,hi,rfl⟩:=qH.1 this;simpa using h6 i (by simpa using hi)
 cases p with
 |Ω d v off=>
  cases hp with
  |Ω _ _ _ _ b hb=>
  simp only[rd]at hr
  split at hr
  ·rename_i v' l hd;split at hr
   ·rename_i hc;obtain⟨rfl,hle⟩:=hc;obtain⟨b',aX,pY⟩:=hl.cells d _ l hd;rw[hb]at aX;cases aX;obtain⟨vs,k⟩:=key b off l lb (.l d) pY (fun _ _ _ h=>h) hle (by simpa using hr.symm);exact⟨b,off,vs,rfl,k⟩
   ·cases hr
  ·cases hr
 |μ id off=>
  cases hp with
  |μ _ _ _ b hb=>
  simp only[rd]at hr
  split at hr
  ·rename_i l hd;split at hr
   ·rename_i hle;obtain⟨b',aX,pY⟩:=hm.blk id _ hd;rw[hb]at aX;cases aX;obtain⟨vs,k⟩:=key b off l cd (.m id) pY (fun _ _ _ h=>by cases h) hle (by simpa using hr.symm);exact⟨b,off,vs,rfl,k⟩
   ·cases hr
  ·cases hr
 |ref l=>
  cases hp with
  |ref _ _ b o xs cJ hv=>
  simp only[rd]at hr
  split at hr
  ·rename_i hle;simp only[bj]at hr;subst hr;refine⟨b,o,(rM n).map xs,rfl,by simp,by simp;omega,?_,?_,?_⟩
   ·intro j v nA;simp only[Dy,bL]at nA;obtain⟨i,hi,rfl⟩:=nA;have hj:j<n:=by
     rcases bP j n with h|h
     ·exact h
     ·rw[iU (by simpa using h)]at hi;cases hi
    rw[ahw hj]at hi;cases hi;exact hm.im _ _ _ (cJ j (by omega)).1
   ·intro i h h';simp only[A5,iG,IF];exact(hv i (by simp at h;omega)).mono g.eP fun _ _ _ h=>by cases h
   ·intro v nA;obtain⟨i,hi,rfl⟩:=jv.1 nA;exact(cJ i (by have:=A7.1 hi;omega)).2
  ·cases hr
 |_=>simp[rd]at hr
def nI(loc:Nat->Option (Nat×θ)):lA->Nat->Option (Nat×θ)
 |none=>loc
 |some (d,v,b)=>fun d'=>if d=d' then some (v,b)else loc d'
theorem Mg(loc:Loc)(u:lA):bT (fe loc u)=nI (bT loc) u:=by
 funext d';cases u with
 |none=>rfl
 |some x=>obtain⟨d,v,b⟩:=x;simp[fe,nI,gF]
def iW(base:Nat)(LC:eX)(g:Gh)(lb:LB)(own:OW)(loc:Nat->Option (Nat×θ))(w:World)(v:AV)(u:lA)(m':Mem)(x:Value)(w':World):Prop:=
 ∃(g':Gh) (lb':LB) (aK:OW),ep g own w g' aK w'/\(∀d i b,lb d i=some b->lb' d i=some b)/\VR g' lb' v x/\bc g' aK LC m' w'∧
  cQ g' lb' aK (nI loc u) w'/\bZ base aK w'
section
variable{base:Nat}{LC:eX}{g g':Gh}{lb lb':LB}{own aK:OW}{loc:Nat->Option (Nat×θ)}{mem:Mem}{w w':World}
theorem iW.pure{v:AV}{x:Value}(hm:bc g own LC mem w)(hl:cQ g lb own loc w)(ho:bZ base own w)(h:VR g lb v x):iW base LC g lb own loc w v none mem x w:=
 ⟨g,lb,own,.refl g own w,fun _ _ _ h=>h,h,hm,hl,ho⟩
theorem bc.bD(h:bc g own LC mem w)(hg:g.sub g')(Ca:∀id,g.mb id=none->g'.mb id=none)(nZ:∀t n,g.rows t n=none->g'.rows t n=none)
  (hb:∀id b,own b=some (.m id)->aK b=own b/\w'.heap[b]?=w.heap[b]?/\∀o,g'.im b o=g.im b o)
  (cJ:∀b o x,g'.im b o=some x->w'.cell? ⟨b,o,none⟩=some x):bc g' aK LC mem w':= {
 ja id b aX:=by
  cases hx:g.mb id with
  |none=>rw[Ca id hx]at aX;cases aX
  |some c=>exact h.ja id c hx
 nF t n x hx:=by
  cases hy:g.rows t n with
  |none=>rw[nZ t n hy]at hx;cases hx
  |some y=>exact h.nF t n y hy
 blk id blk hid:=(h.blk id blk hid).bD hg (hb id) (nZ id) (Ca id)
 im:=cJ}
theorem cQ.bD(h:cQ g lb own loc w)(hg:g.sub g')
  (hb:∀d b,own b=some (.l d)->aK b=own b/\w'.heap[b]?=w.heap[b]?/\∀o,g'.im b o=g.im b o):cQ g' lb aK loc w':= {
 cells d v l hd:=by obtain⟨b,h1,h2⟩:=h.cells d v l hd;obtain⟨k1,k2,k3⟩:=hb d b h2.1;exact⟨b,h1,h2.bD hg (fun _ _ _ h=>h) k1 k2 k3⟩
 iter d v s pos hd:=by obtain⟨b,h1,h2,h3,bs,h4,h5⟩:=h.iter d v s pos hd;obtain⟨k1,k2,k3⟩:=hb d b h2;exact⟨b,h1,k1.trans h2,fun o=>(k3 o).trans (h3 o),bs,k2.trans h4,h5⟩
 vk:=h.vk}
theorem tF(w:World)(o:Obj){b:Nat}(h:b<w.heap.size):(w.alloc o).heap[b]?=w.heap[b]?:=Go.RowKit.Below.heap_alloc w o b h
theorem pZ(w:World)(o:Obj):(w.alloc o).heap[w.heap.size]?=some o:=by show(w.heap.push o)[w.heap.size]?=_;simp
theorem vF{w:World}{b o:Nat}{x:Value}(h:w.cell? ⟨b,o,none⟩=some x):b<w.heap.size:=by
 unfold tm at h;split at h
 ·rename_i heq;exact(Array.getElem?_eq_some_iff.1 heq).1
 ·cases h
theorem iW.drew{v:AV}{u:lA}{m':Mem}{x:Value}(h:iW base LC g lb own loc w.drew v u m' x w'):iW base LC g lb own loc w v u m' x w':=by obtain⟨g',lb',aK,hs,r⟩:=h;exact⟨g',lb',aK,⟨hs.sub,hs.size,hs.os,hs.tape,hs.output,hs.bD,hs.kg,hs.im⟩,r⟩
theorem bc.drew(h:bc g own LC mem w):bc g own LC mem w.drew:=
 h.bD g.eP (fun _ h=>h) (fun _ _ h=>h) (fun _ _ _=>⟨rfl,rfl,fun _=>rfl⟩) h.im
theorem cQ.drew(h:cQ g lb own loc w):cQ g lb own loc w.drew:=h.bD g.eP fun _ _ _=>⟨rfl,rfl,fun _=>rfl⟩
theorem bZ.drew(h:bZ base own w):bZ base own w.drew:=⟨h.ge,h.base⟩
def gr(own:OW)(b:Nat)(o:Option Own):OW:=fun b'=>if b'=b then o else own b'
theorem yK(ho:bZ base own w){b:Nat}{o:Own}(h:own b=some o):b≠w.heap.size:=by have:=(ho.ge b o h).2;omega
theorem bc.alloc(h:bc g own LC mem w)(ho:bZ base own w)(o:Obj)(nm:Option Own):bc g (gr own w.heap.size nm) LC mem (w.alloc o):=
 h.bD g.eP (fun _ h=>h) (fun _ _ h=>h)
  (fun id b hb=>⟨by simp[gr,yK ho hb],tF w o (ho.ge b _ hb).2,fun _=>rfl⟩)
  (fun b o' x hx=>by
   have hc:=h.im b o' x hx
   rw[pO (tF w o (vF hc))];exact hc)
theorem cQ.alloc(h:cQ g lb own loc w)(ho:bZ base own w)(o:Obj)(nm:Option Own):cQ g lb (gr own w.heap.size nm) loc (w.alloc o):=
 h.bD g.eP (fun d b hb=>⟨by simp[gr,yK ho hb],tF w o (ho.ge b _ hb).2,fun _=>rfl⟩)
theorem ep.alloc(g:Gh)(own:OW)(w:World)(o:Obj)(nm:Option Own):ep g own w g (gr own w.heap.size nm) (w.alloc o):= {
 sub:=g.eP
 size:=by simp
 os:=rfl
 tape:=rfl
 output:=rfl
 bD b hb _:=tF w o hb
 kg b hb h:=by simp only[gr];rw[if_neg (by omega)];exact h
 im _ _ _ _:=rfl}
theorem bZ.alloc(h:bZ base own w)(o:Obj)(nm:Option Own):bZ base (gr own w.heap.size nm) (w.alloc o):= {
 ge b o' hb:=by
  simp only[gr]at hb;split at hb
  ·rename_i gj;subst gj;exact⟨h.base,by simp⟩
  ·have:=h.ge b o' hb;exact⟨this.1,by simp;omega⟩
 base:=by have:=h.base;simp;omega}
theorem wD(h:bc g own LC mem w)(o:Nat):g.im w.heap.size o=none:=by
 cases hx:g.im w.heap.size o with
 |none=>rfl
 |some x=>have:=vF (h.im _ _ _ hx);omega
def sO(lb:LB)(d v b:Nat):LB:=fun d' v'=>if d'=d/\v'=v then some b else lb d' v'
theorem Tt(h:cQ g lb own loc w){d v b:Nat}(hb:lb d v=some b):v<aQ loc d:=by obtain⟨v',blk,h1,h2⟩:=h.vk d v b hb;simp only[aQ,h1];omega
theorem HF(h:cQ g lb own loc w)(d b:Nat):∀d' i b',lb d' i=some b'->sO lb d (aQ loc d) b d' i=some b':=by
 intro d' i b' hb;simp only[sO];rw[if_neg]
 ·exact hb
 ·rintro⟨rfl,rfl⟩
  exact ahx _ (Tt h hb)
theorem cQ.new(h:cQ g lb own loc w)(ho:bZ base own w)(d:Nat)(o:Obj)(blk:θ)
  (hc:∀l,blk= .cells l->qF g (sO lb d (aQ loc d) w.heap.size) (gr own w.heap.size (some (.l d))) (w.alloc o) (.l d) w.heap.size l)
  (hi:∀s pos,blk= .iter s pos->(∀o,g.im w.heap.size o=none)/\∃bs:ByteArray,o= .stringIter bs pos/\bs.data.toList.map UInt8.toNat=s):
  cQ g (sO lb d (aQ loc d) w.heap.size) (gr own w.heap.size (some (.l d))) (nI loc (some (d,aQ loc d,blk))) (w.alloc o):=by
 have h':=h.alloc ho o (some (.l d));have hs:=HF h d w.heap.size;refine⟨fun d' v l hd=>?_,fun d' v s pos hd=>?_,fun d' v b hb=>?_⟩
 ·simp only[nI]at hd;split at hd
  ·rename_i gn;subst gn;cases hd;exact⟨w.heap.size,by simp[sO],hc l rfl⟩
  ·obtain⟨b,h1,h2⟩:=h'.cells d' v l hd;exact⟨b,hs _ _ _ h1,h2.bD g.eP hs rfl rfl fun _=>rfl⟩
 ·simp only[nI]at hd;split at hd
  ·rename_i gn;subst gn;cases hd;obtain⟨k1,bs,rfl,k2⟩:=hi s pos rfl;exact⟨w.heap.size,by simp[sO],by simp[gr],k1,bs,pZ w _,k2⟩
  ·obtain⟨b,h1,r⟩:=h'.iter d' v s pos hd;exact⟨b,hs _ _ _ h1,r⟩
 ·simp only[sO]at hb;split at hb
  ·rename_i gn;obtain⟨rfl,rfl⟩:=gn;exact⟨_,blk,by simp[nI],bQ _⟩
  ·by_cases gn:d=d'
   ·subst gn;exact⟨_,blk,by simp[nI],y5 (Tt h hb)⟩
   ·obtain⟨v',IY,h1,h2⟩:=h.vk d' v b hb;exact⟨v',IY,by simp[nI,gn,h1],h2⟩
theorem bc.push{o':OW}(h:bc g own LC mem w)(hk:bc g o' LC mem w')(blk:θ)(mT:Nat->Option Nat)
  (jf:∀id b,mT id=some b->g.mb id=some b\/id=mem.ε.length) (RC:∀id,id<mem.ε.length->mT id=g.mb id)
  (sE:s_ {g with mb:=mT} o' LC w' mem.ε.length blk):bc {g with mb:=mT} o' LC (mem.push blk) w':=by
 have ef:g.sub {g with mb:=mT}:=⟨fun _ _ _ h=>h,fun id b hb=>by rw[<-hb];exact RC id (h.ja id b hb),fun _ _ _ h=>h⟩;refine⟨fun id b hb=>?_,fun t n x hx=>?_,fun id IY hid=>?_,hk.im⟩
 ·simp only[Mem.push,dB,dO,fq];rcases jf id b hb with aX|rfl
  ·have:=h.ja id b aX;omega
  ·omega
 ·have:=h.nF t n x hx;simp only[Mem.push,dB,dO,fq];omega
 ·simp only[Mem.push]at hid;rcases bP id mem.ε.length with ν|cD
  ·rw[eg ν]at hid;exact(hk.blk id IY hid).bD ef (fun _ _=>⟨rfl,rfl,fun _=>rfl⟩) (fun _ h=>h) (fun hn=>by show mT id=none;rw[RC id ν];exact hn)
  ·rw[ti cD]at hid;have:id=mem.ε.length:=by
    rcases bP 0 (id-mem.ε.length)with h0|h0
    ·rw[iU (by simp;omega)]at hid;cases hid
    ·omega
   subst this;simp at hid;subst hid;exact sE
theorem HN{v:AV}{x:Value}(_h:bc g own LC mem w)(hv:VR g lb v x):VR g cd (mem.ρ v) x:=VR.ρ hv
theorem adM(hm:bc g own LC mem w)(hl:cQ g lb own loc w)(ho:bZ base own w){T e:TypeId}:
  iW base LC g lb own loc w (.μ mem.ε.length 0) none (mem.push (.nL T e [])) (.pointer (some ⟨w.heap.size,0,none⟩)) (w.alloc (.cells #[.pointer none,.slice none 0 0] T)):=by
 have cJ:∀o,g.im w.heap.size o=none:=wD hm;let g':Gh:= {g with mb:=fun id=>if id=mem.ε.length then some w.heap.size else g.mb id};have ef:g.sub g':=⟨fun _ _ _ h=>h,fun id b hb=>by
  have:=hm.ja id b hb
  simp only[g'];rw[if_neg (by omega)];exact hb,fun _ _ _ h=>h⟩
 have τ:=ep.alloc g own w (.cells #[.pointer none,.slice none 0 0] T) (some (.m mem.ε.length));refine⟨g',lb,_,⟨ef,τ.size,τ.os,τ.tape,τ.output,τ.bD,τ.kg,τ.im⟩,fun _ _ _ h=>h,.μ _ _ _ _ (by simp[g']),?_,?_,ho.alloc _ _⟩
 ·refine hm.push (hm.alloc ho _ _) _ _ (fun id b hb=>?_) (fun id hid=>?_) ?_
  ·split at hb
   ·exact .inr (by assumption)
   ·exact .inl hb
  ·exact if_neg (by omega)
  ·exact⟨w.heap.size,by simp,by simp[gr],cJ,_,_,pZ w _,.inl rfl,fun x hx=>(by cases hx),.inl ⟨rfl,rfl⟩⟩
 ·exact(hl.alloc ho _ _).bD ef fun _ _ _=>⟨rfl,rfl,fun _=>rfl⟩
theorem Mt(hm:bc g own LC mem w)(hl:cQ g lb own loc w)(ho:bZ base own w){qU:Bool}{dst:Option Nat}{l:List AV}{cs:Array Value}{e:TypeId}
  (hs:cs.size=l.length) (hv:∀i (h:i<l.length) (h':i<cs.size),VR g lb l[i] cs[i]) (h1:∀i (h':i<cs.size),cs[i].oneCell'=true)
  {v:AV} {u:lA} {m':Mem} (hr:newVar loc mem qU dst l=some (v,u,m')):
  iW base LC g lb own loc w v u m' (.pointer (some ⟨w.heap.size,0,none⟩)) (w.alloc (.cells cs e)):=by
 have cJ:∀o,g.im w.heap.size o=none:=wD hm;unfold newVar at hr;split at hr
 ·simp only[bj,aL]at hr;obtain⟨rfl,rfl,rfl⟩:=hr;let g':Gh:= {g with mb:=fun id=>if id=mem.ε.length then some w.heap.size else g.mb id};have ef:g.sub g':=⟨fun _ _ _ h=>h,fun id b hb=>by
   have:=hm.ja id b hb
   simp only[g'];rw[if_neg (by omega)];exact hb,fun _ _ _ h=>h⟩
  have τ:=ep.alloc g own w (.cells cs e) (some (.m mem.ε.length));refine⟨g',lb,_,⟨ef,τ.size,τ.os,τ.tape,τ.output,τ.bD,τ.kg,τ.im⟩,fun _ _ _ h=>h,.μ _ _ _ _ (by simp[g']),?_,?_,ho.alloc _ _⟩
  ·refine hm.push (hm.alloc ho _ _) _ _ (fun id b hb=>?_) (fun id hid=>?_) ?_
   ·split at hb
    ·exact .inr (by assumption)
    ·exact .inl hb
   ·exact if_neg (by omega)
   ·refine⟨w.heap.size,by simp,by simp[gr],cJ,cs,e,pZ w _,by simpa using hs,fun i hi ae=>?_,h1⟩;simp only[iG];exact(HN hm (hv i (by simpa using hi) ae)).sub ef
  ·exact(hl.alloc ho _ _).bD ef fun _ _ _=>⟨rfl,rfl,fun _=>rfl⟩
 ·split at hr
  ·rename_i d;simp only[bj,aL]at hr;obtain⟨rfl,rfl,rfl⟩:=hr;refine⟨g,sO lb d (aQ loc d) w.heap.size,_,.alloc g own w _ (some (.l d)),HF hl d _,.Ω _ _ _ _ _ (by simp[sO]),hm.alloc ho _ _,?_,ho.alloc _ _⟩;refine hl.new ho d _ _ (fun l' gY=>?_) (fun s pos h=>by cases h);cases gY;exact⟨by simp[gr],cJ,cs,e,pZ w _,hs,fun i hi ae=>(hv i hi ae).mono g.eP (HF hl d _),h1⟩
  ·cases hr
end
def PW{α β:Type}(R:α->β->Prop)(l:List α)(m:List β):Prop:=l.length=m.length/\∀i (h:i<l.length) (h':i<m.length),R l[i] m[i]
section
variable{α β:Type}{R:α->β->Prop}
theorem PW.append{l l':List α}{m m':List β}(h:PW R l m)(h':PW R l' m'):PW R (l++l') (m++m'):=by
 refine⟨by simp[h.1,h'.1],fun i hi ae=>?_⟩;rcases bP i l.length with ν|cD
 ·rw[A3 ν,A3 (by have:=h.1;omega)];exact h.2 i ν _
 ·rw[A4 cD,A4 (by have:=h.1;omega)];have he:i-m.length=i-l.length:=by rw[h.1]
  have:=h'.2 (i-l.length) (by simp at hi;omega) (by simp at ae;have:=h.1;omega);simpa[h.1]using this
theorem PW.take{l:List α}{m:List β}(h:PW R l m)(n:Nat):PW R (l.take n) (m.take n):=by refine⟨by simp[h.1],fun i hi ae=>?_⟩;simp only[A5];exact h.2 i _ _
theorem PW.drop{l:List α}{m:List β}(h:PW R l m)(n:Nat):PW R (l.drop n) (m.drop n):=by refine⟨by simp[h.1],fun i hi ae=>?_⟩;simp only[w_];exact h.2 _ _ _
theorem PW.mono{R':α->β->Prop}{l:List α}{m:List β}(h:PW R l m)(hr:∀a b,R a b->R' a b):PW R' l m:=⟨h.1,fun i hi ae=>hr _ _ (h.2 i hi ae)⟩
theorem PW.map{γ:Type}{R':γ->β->Prop}{l:List α}{m:List β}(f:α->γ)(h:PW R l m)(hr:∀a b,R a b->R' (f a) b):PW R' (l.map f) m:=
 ⟨by simp[h.1],fun i hi ae=>by simp only[iG];exact hr _ _ (h.2 i (by simpa using hi) ae)⟩
theorem PW.nil:PW R ([]:List α) ([]:List β):=⟨rfl,fun i h=>by simp at h⟩
theorem PW.cons{a:α}{b:β}{l:List α}{m:List β}(h:R a b)(hl:PW R l m):PW R (a::l) (b::m):=by
 refine⟨by simp[hl.1],fun i hi ae=>?_⟩;cases i with
 |zero=>exact h
 |succ i=>exact hl.2 i (by simpa using hi) (by simpa using ae)
end
section
variable{base:Nat}{LC:eX}{g g':Gh}{lb lb':LB}{own aK:OW}{loc:Nat->Option (Nat×θ)}{mem:Mem}{w w':World}
def arr(cur:Array Value)(off:Nat)(vs:List Value):Array Value:=(cur.toList.take off++vs++cur.toList.drop (off+vs.length)).toArray
theorem qF.pw{nm:Own}{b:Nat}{l:List AV}(h:qF g lb own w nm b l):∃a e,w.heap[b]?=some (.cells a e (0,0))/\PW (VR g lb) l a.toList/\∀v∈a.toList,v.oneCell'=true:=by obtain⟨_,_,a,e,h3,h4,h5,h6⟩:=h;refine⟨a,e,h3,⟨by simpa using h4.symm,fun i hi ae=>by simpa using h5 i hi (by simpa using ae)⟩,fun v hv=>?_⟩;obtain⟨i,hi,rfl⟩:=qH.1 hv;simpa using h6 i (by simpa using hi)
theorem qF.store{nm:Own}{b:Nat}{l:List AV}(h:qF g lb own w nm b l){off:Nat}{cs:List AV}{vs:List Value}(dc:PW (VR g lb) cs vs)(h1:∀v∈vs,v.oneCell'=true)
  (hle:off+cs.length<=l.length):
  ∃a e,w.heap[b]?=some (.cells a e (0,0))/\off+vs.length<=a.size/\qF g lb own (w.setRow b (arr a off vs)) nm b (fy l off cs):=by
 obtain⟨a,e,ha,hp,ho⟩:=h.pw;have hl:l.length=a.size:=by simpa using hp.1
 have hc:=dc.1;have yf:PW (VR g lb) (fy l off cs) (a.toList.take off++vs++a.toList.drop (off+vs.length)):=by unfold fy;rw[hc];exact((hp.take off).append dc).append (hp.drop _)
 refine⟨a,e,ha,by omega,h.1,h.2.1,arr a off vs,e,setRow_heap w b a _ e _ ha,?_,?_,?_⟩
 ·simpa[arr]using yf.1.symm
 ·intro i hi ae;have:=yf.2 i hi (by simpa[arr]using ae);simpa[arr]using this
 ·intro i hi;have hm:(arr a off vs)[i]∈(a.toList.take off++vs++a.toList.drop (off+vs.length)):=by simp[arr]
  rcases eL.1 hm with hm|hm
  ·rcases eL.1 hm with hm|hm
   ·exact ho _ (oe hm)
   ·exact h1 _ hm
  ·exact ho _ (rL hm)
theorem bc.setRow_other(h:bc g own LC mem w){b:Nat}(a:Array Value)(hb:∀id,own b≠some (.m id))(cJ:∀o,g.im b o=none):bc g own LC mem (w.setRow b a):=by
 refine h.bD g.eP (fun _ h=>h) (fun _ _ h=>h) (fun id b' aX=>⟨rfl,Go.setRow_other w b b' a ?_,fun _=>rfl⟩) (fun b' o x hx=>?_)
 ·rintro rfl;exact hb id aX
 ·have aj:b'≠b:=by rintro rfl;rw[cJ]at hx;cases hx
  rw[pO (Go.setRow_other w b b' a aj)];exact h.im _ _ _ hx
theorem cQ.setRow_other(h:cQ g lb own loc w){b:Nat}(a:Array Value)(hb:∀d,own b≠some (.l d)):cQ g lb own loc (w.setRow b a):=
 h.bD g.eP fun d b' aX=>⟨rfl,Go.setRow_other w b b' a (by rintro rfl;exact hb d aX),fun _=>rfl⟩
theorem ep.setRow(g:Gh){own:OW}(w:World){b:Nat}(a:Array Value){o:Own}(hb:own b=some o):ep g own w g own (w.setRow b a):= {
 sub:=g.eP
 size:=by simp
 os:=rfl
 tape:=rfl
 output:=rfl
 bD b' _ ho:=Go.setRow_other w b b' a (by rintro rfl;rw[hb]at ho;cases ho)
 kg _ _ h:=h
 im _ _ _ _:=rfl}
theorem bZ.setRow(h:bZ base own w)(b:Nat)(a:Array Value):bZ base own (w.setRow b a):=⟨fun b' o hb=>by simpa using h.ge b' o hb,by simpa using h.base⟩
theorem bc.Iq(h:bc g own LC mem w){yp:Nat}{DT:θ}{t:List Nat}(h0:yp<mem.ε.length)(hg:g.sub g')(Ca:∀id,g.mb id=none->g'.mb id=none)
  (nZ:∀t n,t≠yp->g.rows t n=none->g'.rows t n=none)
  (hb:∀id b,id≠yp->own b=some (.m id)->aK b=own b/\w'.heap[b]?=w.heap[b]?/\∀o,g'.im b o=g.im b o)
  (sE:s_ g' aK LC w' yp DT) (cJ:∀b o x,g'.im b o=some x->w'.cell? ⟨b,o,none⟩=some x):
  bc g' aK LC {ε:=mem.ε.set yp DT,η:=t} w':= {
 ja id b aX:=by
  simp only[ft];cases hx:g.mb id with
  |none=>rw[Ca id hx]at aX;cases aX
  |some c=>exact h.ja id c hx
 nF t n x hx:=by
  simp only[ft];by_cases ht:t=yp
  ·subst ht;exact h0
  ·cases hy:g.rows t n with
   |none=>rw[nZ t n ht hy]at hx;cases hx
   |some y=>exact h.nF t n y hy
 blk id blk hid:=by
  simp only[List.getElem?_set]at hid;by_cases hi:yp=id
  ·subst hi;rw[if_pos rfl,if_pos h0]at hid;cases hid;exact sE
  ·rw[if_neg hi]at hid;exact(h.blk id blk hid).bD hg (fun b=>hb id b (Ne.symm hi)) (fun n=>nZ id n (Ne.symm hi)) (Ca id)
 im:=cJ}
theorem Nq(hm:bc g own LC mem w)(hl:cQ g lb own loc w)(ho:bZ base own w){p:AV}{x:Value}{cs:List AV}{vs:List Value}(hp:VR g lb p x)
  (dc:PW (VR g lb) cs vs) (h1:∀v∈vs,v.oneCell'=true) {u:lA} {m':Mem} (hr:wr loc mem p cs=some (u,m')):
  ∃(b off:Nat) (a:Array Value) (e:TypeId),x= .pointer (some ⟨b,off,none⟩)/\w.heap[b]?=some (.cells a e (0,0))/\off+vs.length<=a.size∧
   iW base LC g lb own loc w .undef u m' undef (w.setRow b (arr a off vs)):=by
 cases p with
 |Ω d v off=>
  cases hp with
  |Ω _ _ _ _ b hb=>
  simp only[wr]at hr
  split at hr
  ·rename_i v' l hd;split at hr
   ·rename_i hc;obtain⟨rfl,hle⟩:=hc;simp only[bj,aL]at hr;obtain⟨rfl,rfl⟩:=hr;obtain⟨b',aX,pY⟩:=hl.cells d _ l hd;rw[hb]at aX;cases aX;obtain⟨a,e,ha,bm,sE⟩:=pY.store dc h1 hle;have fM:=pY.1;refine⟨b,off,a,e,rfl,ha,bm,g,lb,own,.setRow g w _ fM,fun _ _ _ h=>h,.undef _,hm.setRow_other _ (fun id=>by rw[fM];simp) pY.2.1,?_,ho.setRow _ _⟩;refine⟨fun d' i l' jA=>?_,fun d' i s pos jA=>?_,fun d' i b' aX=>?_⟩
    ·simp only[nI]at jA;split at jA
     ·rename_i gn;subst gn;cases jA;exact⟨b,hb,sE⟩
     ·rename_i gn;obtain⟨b2,k1,k2⟩:=hl.cells d' i l' jA;have aj:b2≠b:=by rintro rfl;have:=k2.1;rw[fM]at this;cases this;exact gn rfl
      exact⟨b2,k1,k2.bD g.eP (fun _ _ _ h=>h) rfl (Go.setRow_other w b b2 _ aj) fun _=>rfl⟩
    ·simp only[nI]at jA;split at jA
     ·cases jA
     ·rename_i gn;obtain⟨b2,k1,k2,k3,bs,k4,k5⟩:=hl.iter d' i s pos jA;have aj:b2≠b:=by rintro rfl;rw[fM]at k2;cases k2;exact gn rfl
      exact⟨b2,k1,k2,k3,bs,(Go.setRow_other w b b2 _ aj).trans k4,k5⟩
    ·obtain⟨v2,IZ,k1,k2⟩:=hl.vk d' i b' aX;by_cases gn:d=d'
     ·subst gn;rw[hd]at k1;cases k1;exact⟨_,.cells (fy l off cs),by simp[nI],k2⟩
     ·exact⟨v2,IZ,by simp[nI,gn,k1],k2⟩
   ·cases hr
  ·cases hr
 |μ id off=>
  cases hp with
  |μ _ _ _ b hb=>
  simp only[wr]at hr
  split at hr
  ·rename_i l hd;split at hr
   ·rename_i hle;simp only[bj,aL]at hr;obtain⟨rfl,rfl⟩:=hr;obtain⟨b',aX,pY⟩:=hm.blk id _ hd;rw[hb]at aX;cases aX;have aau:PW (VR g cd) (cs.map mem.ρ) vs:=dc.map _ fun _ _ h=>HN hm h;obtain⟨a,e,ha,bm,sE⟩:=pY.store aau h1 (by simpa using hle);have fM:=pY.1;refine⟨b,off,a,e,rfl,ha,bm,g,lb,own,.setRow g w _ fM,fun _ _ _ h=>h,.undef _,?_,hl.setRow_other _ (fun d=>by rw[fM];simp),ho.setRow _ _⟩;have hid:id<mem.ε.length:=hm.ja id b hb;refine hm.Iq hid g.eP (fun _ h=>h) (fun _ _ _ h=>h) (fun nC b' aj aX=>⟨rfl,Go.setRow_other w b b' _ ?_,fun _=>rfl⟩) ⟨b,hb,sE⟩ (fun b' o x hx=>?_)
    ·rintro rfl;rw[fM]at aX;cases aX;exact aj rfl
    ·have aj:b'≠b:=by rintro rfl;rw[pY.2.1]at hx;cases hx
     rw[pO (Go.setRow_other w b b' _ aj)];exact hm.im _ _ _ hx
   ·cases hr
  ·cases hr
 |_=>simp[wr]at hr
end
def FR(g:Gh)(lb:LB)(sz:Nat)(l:List AV)(vs:List Value):Prop:=
 vs.length=l.length*sz/\(∀e∈l,e.cells.length=sz)/\(∀v∈vs,v.oneCell'=true)∧
  ∀i (h:i<l.length) j (hj:j<l[i].cells.length) (h':i*sz+j<vs.length),VR g lb l[i].cells[j] vs[i*sz+j]
theorem Hi{i j n sz:Nat}(hi:i<n)(hj:j<sz):i*sz+j<n*sz:=by have h1:(i+1)*sz<=n*sz:=rQ _ hi;rw[kV]at h1;omega
section
variable{base:Nat}{LC:eX}{g g':Gh}{lb lb':LB}{own aK:OW}{loc:Nat->Option (Nat×θ)}{mem:Mem}{w w':World}
theorem FR.nil(sz:Nat):FR g lb sz [] []:=⟨by simp,by simp,by simp,by simp⟩
theorem FR.append{sz:Nat}{l m:List AV}{vs us:List Value}(h:FR g lb sz l vs)(k:FR g lb sz m us):FR g lb sz (l++m) (vs++us):=by
 refine⟨by simp[h.1,k.1,kV],fun e he=>?_,fun v hv=>?_,fun i hi j hj nU=>?_⟩
 ·rcases eL.1 he with he|he
  ·exact h.2.1 e he
  ·exact k.2.1 e he
 ·rcases eL.1 hv with hv|hv
  ·exact h.2.2.1 v hv
  ·exact k.2.2.1 v hv
 ·rcases bP i l.length with ν|cD
  ·have e1:(l++m)[i]=l[i]:=A3 ν;have dD:j<l[i].cells.length:=by rw[<-e1];exact hj
   have bm:l[i].cells.length=sz:=h.2.1 _ (cz ν);have dE:i*sz+j<vs.length:=by rw[h.1];exact Hi ν (by omega)
   rw[A3 dE];have:=h.2.2.2 i ν j dD dE;simpa only[e1]using this
  ·have e1:(l++m)[i]=m[i-l.length]'(by simp at hi;omega):=A4 cD;have dD:j<(m[i-l.length]'(by simp at hi;omega)).cells.length:=by rw[<-e1];exact hj
   have hmul:i*sz=l.length*sz+(i-l.length)*sz:=by rw[<-kV];congr 1;omega
   have Cf:vs.length<=i*sz+j:=by rw[h.1,hmul];omega
   have KH:i*sz+j-vs.length=(i-l.length)*sz+j:=by rw[h.1,hmul];omega
   have dE:(i-l.length)*sz+j<us.length:=by
    have:i*sz+j<vs.length+us.length:=by simpa using nU
    omega
   rw[A4 Cf];have:=k.2.2.2 (i-l.length) (by simp at hi;omega) j dD dE;simp only[KH,e1];exact this
theorem FR.mono{sz:Nat}{l:List AV}{vs:List Value}(h:FR g lb sz l vs)(hg:g.sub g')(hl:∀d i b,lb d i=some b->lb' d i=some b):FR g' lb' sz l vs:=
 ⟨h.1,h.2.1,h.2.2.1,fun i hi j hj nU=>(h.2.2.2 i hi j hj nU).mono hg hl⟩
theorem FR.ρ{sz:Nat}{l:List AV}{vs:List Value}(hm:bc g own LC mem w)(h:FR g lb sz l vs):FR g cd sz (l.map mem.ρ) vs:=by
 have hc:∀v:AV,(mem.ρ v).cells=v.cells.map mem.ρ:=fun v=>Ea v;refine⟨by simp[h.1],fun e he=>?_,h.2.2.1,fun i hi j hj nU=>?_⟩
 ·obtain⟨e',gW,rfl⟩:=jv.1 he;rw[hc,dq];exact h.2.1 e' gW
 ·have ae:i<l.length:=by simpa using hi
  have dD:j<l[i].cells.length:=by simpa[hc]using hj
  have:=HN hm (h.2.2.2 i ae j dD nU);simpa[hc]using this
theorem VR.flat{c:Γ}{l:List AV}{x:Value}{sz:Nat}(h:VR g lb (.list c l) x)(bm:∀e∈l,e.cells.length=sz)(aj:l≠[]):
  ∃(b o cap:Nat) (vs:List Value),x= .slice (some ⟨b,o,none⟩) l.length cap/\l.length<=cap/\nN g l.length b o cap c/\FR g cd sz l vs∧
   ∀q v,vs[q]?=some v->g.im b (o+q)=some v:=by
 cases h with
 |iQ=>exact absurd rfl aj
 |g_=>exact absurd rfl aj
 |list _ _ _ b o ff n cap xs hn dp hc CF cJ hv=>
  subst hn
  have hs:ff=sz:=by
   cases l with
   |nil=>exact absurd rfl aj
   |cons e l=>rw[<-CF e (by simp),bm e (by simp)]
  subst hs;have ji:∀q,q<l.length*ff->0<ff:=fun q hq=>by
   rcases Nat.eq_zero_or_pos ff with h|h
   ·rw[h]at hq;simp at hq
   ·exact h
  have hdiv:∀q,q<l.length*ff->q/ff<l.length/\q % ff<ff/\q/ff*ff+q % ff=q:=fun q hq=>⟨Nat.div_lt_of_lt_mul (by rw[ahy];exact hq),Nat.mod_lt _ (ji q hq),by rw[ahy];exact Nat.div_add_mod q ff⟩;refine⟨b,o,cap,(rM (l.length*ff)).map fun q=>xs (q/ff) (q % ff),rfl,dp,hc,⟨by simp,bm,fun v nA=>?_,fun i hi j hj nU=>?_⟩,fun q v hq=>?_⟩
  ·obtain⟨q,hq,rfl⟩:=jv.1 nA;obtain⟨k1,k2,k3⟩:=hdiv q (A7.1 hq);exact(cJ _ k1 _ k2).2
  ·simp only[iG,IF];have dD:j<ff:=by rw[<-bm _ (cz hi)];exact hj
   have h1:(i*ff+j)/ff=i:=by rw[ahy,Nat.mul_add_div (by omega),Nat.div_eq_of_lt dD];rfl
   have h2:(i*ff+j) % ff=j:=by rw[ahy,Nat.mul_add_mod,Nat.mod_eq_of_lt dD]
   rw[h1,h2];exact hv i hi j hj
  ·have ν:q<l.length*ff:=by have:=(lx.1 hq).1;simpa using this
   obtain⟨k1,k2,k3⟩:=hdiv q ν;simp only[Dy,ahw ν,Option.map_some,bj]at hq;subst hq;have:=(cJ _ k1 _ k2).1;rwa[k3]at this
theorem VR.HS{c:Γ}{l:List AV}{sz b o n cap:Nat}{vs:List Value}(h:FR g cd sz l vs)(hn:l.length=n)(dp:n<=cap)(hc:nN g n b o cap c)
  (cJ:∀q v,vs[q]?=some v->g.im b (o+q)=some v):VR g lb (.list c l) (.slice (some ⟨b,o,none⟩) n cap):=by
 subst hn;have ν:∀i,i<l.length->∀j,j<sz->i*sz+j<vs.length:=fun i hi j hj=>by rw[h.1];exact Hi hi hj
 refine .list _ c l b o sz _ cap (fun i j=>vs.getD (i*sz+j) Go.undef) rfl dp hc h.2.1 (fun i hi j hj=>?_) (fun i hi j hj=>?_)
 ·have hl:=ν i hi j hj;refine⟨?_,?_⟩
  ·rw[kT,eo hl];exact cJ _ _ (eo hl)
  ·rw[kT,eo hl];exact h.2.2.1 _ (cz hl)
 ·have dD:j<sz:=by rw[<-h.2.1 _ (cz hi)];exact hj
  have hl:=ν i hi j dD;rw[kT,eo hl];exact h.2.2.2 i hi j hj hl
theorem FR.one{v:AV}{x:Value}{sz:Nat}(h:VR g lb v x)(hs:v.cells.length=sz)(h0:0<sz):FR g lb sz [v] x.cells.toList:=by
 obtain⟨h1,h2,h3⟩:=h.cells (by intro hn;rw[hn]at hs;simp at hs;omega);refine⟨by simp[h1,hs],by simp[hs],fun u hu=>?_,fun i hi j hj nU=>?_⟩
 ·obtain⟨i,hi,rfl⟩:=qH.1 hu;simpa using h3 i (by simpa using hi)
 ·have:i=0:=by simpa using hi
  subst this;have:=h2 j (by simpa using hj) (by simp at nU;omega);simpa using this
def Gh.row(g:Gh)(b:Nat)(vs:List Value):Gh:= {g with im:=fun b' o=>if b'=b then vs[o]? else g.im b' o}
theorem Ux{b:Nat}{vs:List Value}(h:∀o,g.im b o=none):g.sub (g.row b vs):=
 ⟨fun b' o x hx=>(by
  simp only[Gh.row];rw[if_neg]
  ·exact hx
  ·rintro rfl;rw[h]at hx;cases hx),fun _ _ h=>h,fun _ _ _ h=>h⟩
theorem afF(hm:bc g own LC mem w)(hl:cQ g lb own loc w)(ho:bZ base own w){l:List AV}{a:Array Value}{sz:Nat}{e:TypeId}(hf:FR g cd sz l a.toList):
  iW base LC g lb own loc w (.list .full l) none mem (.slice (some ⟨w.heap.size,0,none⟩) l.length l.length) (w.alloc (.cells a e)):=by
 have hn:=wD hm;have ef:g.sub (g.row w.heap.size a.toList):=Ux hn;have τ:=ep.alloc g own w (.cells a e) none;have Ci:∀b o,own b=some o->∀q,(g.row w.heap.size a.toList).im b q=g.im b q:=fun b o hb q=>by simp[Gh.row,yK ho hb]
 have lJ:=hm.alloc ho (.cells a e) none;refine⟨g.row w.heap.size a.toList,lb,_,⟨ef,τ.size,τ.os,τ.tape,τ.output,τ.bD,τ.kg,fun b hb _ q=>by simp only[Gh.row];rw[if_neg (by omega)]⟩,
  fun _ _ _ h=>h,?_,?_,?_,ho.alloc _ _⟩
 ·refine VR.HS (hf.mono ef (fun _ _ _ h=>by cases h)) rfl (bQ _) rfl (fun q v hq=>?_);simp only[Gh.row,ly,if_true];exact hq
 ·refine lJ.bD ef (fun _ h=>h) (fun _ _ h=>h) (fun id b hb=>⟨rfl,rfl,?_⟩) (fun b o x hx=>?_)
  ·have aX:own b=some (.m id):=by
    simp only[gr]at hb;split at hb
    ·cases hb
    ·exact hb
   exact Ci b _ aX
  ·simp only[Gh.row]at hx;split at hx
   ·rename_i gj;subst gj;simp only[tm,pZ];simpa using hx
   ·exact lJ.im b o x hx
 ·refine(hl.alloc ho (.cells a e) none).bD ef (fun d b hb=>⟨rfl,rfl,?_⟩);have aX:own b=some (.l d):=by
   simp only[gr]at hb;split at hb
   ·cases hb
   ·exact hb
  exact Ci b _ aX
end
section
variable{P:Program}{base:Nat}{LC:eX}{g g':Gh}{lb lb':LB}{own aK:OW}{loc:Nat->Option (Nat×θ)}{mem:Mem}{w w':World}
def Gh.grow(g:Gh)(t k b cap:Nat):Gh:= {g with rows:=fun t' k'=>if t'=t/\k'=k then some (b,cap)else g.rows t' k'}
theorem QM{t k b cap:Nat}(h:g.rows t k=none):g.sub (g.grow t k b cap):=
 ⟨fun _ _ _ h=>h,fun _ _ h=>h,fun t' k' x hx=>(by
  simp only[Gh.grow];rw[if_neg]
  ·exact hx
  ·rintro⟨rfl,rfl⟩;rw[h]at hx;cases hx)⟩
theorem zL(hm:bc g own LC mem w)(hl:cQ g lb own loc w)(ho:bZ base own w){t n sz cap:Nat}{e:TypeId}{l:List AV}{vs:List Value}{rest:Array Value}{m':Mem}
  (hf:FR g cd sz l vs) (hn:l.length=n) (h0:0<sz) (dp:n<=cap) (G_:rest.size=(cap-n)*sz) (nZ:∀m x,g.rows t m=some x->m<n) (jf:g.mb t=none)
  (lJ:(t=mem.ε.length/\m'=mem.push (.front n sz e))\/(t<mem.ε.length/\m'=mem.put t (.front n sz e) true)):
  iW base LC g lb own loc w (.list (.own t) l) none m' (.slice (some ⟨w.heap.size,0,none⟩) n cap) (w.drew.alloc (.cells (vs.toArray++rest) e)):=by
 refine iW.drew ?_;have x5:=hm.drew;have Cl:=hl.drew;have Cs:=ho.drew;have bm:w.heap.size=w.drew.heap.size:=rfl;rw[bm];generalize w.drew=w at*;clear hm hl ho;have uJ:=wD x5;have Lp:g.rows t n=none:=by
  cases hx:g.rows t n with
  |none=>rfl
  |some x=>have:=nZ n x hx;omega
 let o:=Obj.cells (vs.toArray++rest) e;let g1:=g.row w.heap.size vs;let g':=g1.grow t n w.heap.size cap;have oO:g.sub g1:=Ux uJ;have ef:g.sub g':=Gh.Dl oO (QM (by exact Lp));have τ:=ep.alloc g own w o (some (.m t));have RN:∀b o',own b=some o'->∀q,g'.im b q=g.im b q:=fun b o' hb q=>by simp[g',g1,Gh.grow,Gh.row,yK Cs hb]
 have hlen:vs.length=n*sz:=by rw[<-hn];exact hf.1
 have Ci:∀id b,own b=some (.m id)->gr own w.heap.size (some (.m t)) b=own b/\(w.alloc o).heap[b]?=w.heap[b]?/\∀q,g'.im b q=g.im b q:=
  fun id b hb=>⟨by simp[gr,yK Cs hb],tF w o (Cs.ge b _ hb).2,RN b _ hb⟩
 have cJ:∀b q x,g'.im b q=some x->(w.alloc o).cell? ⟨b,q,none⟩=some x:=by
  intro b q x hx;have fS:(if b=w.heap.size then vs[q]? else g.im b q)=some x:=hx;split at fS
  ·rename_i gj;subst gj;simp only[tm,o,pZ];have hq:q<vs.length:=(lx.1 fS).1;rw[Array.getElem?_append_left (by simpa using hq)];simpa using fS
  ·have:=x5.im b q x fS;rw[pO (tF w o (vF this))];exact this
 have gm:s_ g' (gr own w.heap.size (some (.m t))) LC (w.alloc o) t (.front n sz e):=by
  refine⟨h0,w.heap.size,cap,by simp[g',Gh.grow],dp,by simp[gr],⟨_,pZ w o,?_⟩,fun q hq=>?_,fun m x hx=>?_,jf⟩
  ·simp only[Array.size_append,List.size_toArray,hlen,G_,<-kV];congr 1;omega
  ·show(if w.heap.size=w.heap.size then vs[q]? else _)=none;rw[if_pos rfl,iU (by omega)]
  ·simp only[g',Gh.grow]at hx;split at hx
   ·rename_i h;omega
   ·exact y5 (nZ m x hx)
 refine⟨g',lb,gr own w.heap.size (some (.m t)),⟨ef,τ.size,τ.os,τ.tape,τ.output,τ.bD,τ.kg,fun b hb _ q=>?_⟩,fun _ _ _ h=>h,?_,?_,?_,Cs.alloc _ _⟩
 ·simp only[g',g1,Gh.grow,Gh.row];rw[if_neg (by omega)]
 ·refine VR.HS (hf.mono ef (fun _ _ _ h=>by cases h)) hn dp ⟨rfl,by simp[g',Gh.grow]⟩ (fun q v hq=>?_);show(if w.heap.size=w.heap.size then vs[0+q]? else _)=some v;rw[if_pos rfl,ly];exact hq
 ·rcases lJ with⟨ht,rfl⟩|⟨ht,rfl⟩
  ·have hk:bc g own LC mem w:=x5;refine⟨fun id b hb=>?_,fun t' k x hx=>?_,fun id blk hid=>?_,cJ⟩
   ·have:=x5.ja id b hb;simp only[Mem.push,dB,dO,fq];omega
   ·simp only[Mem.push,dB,dO,fq];simp only[g',g1,Gh.grow,Gh.row]at hx;split at hx
    ·omega
    ·have:=x5.nF t' k x hx;omega
   ·simp only[Mem.push]at hid;rcases bP id mem.ε.length with ν|cD
    ·rw[eg ν]at hid;refine(x5.blk id blk hid).bD ef (Ci id) (fun k hk=>?_) (fun h=>h);simp only[g',g1,Gh.grow,Gh.row];rw[if_neg (by omega)];exact hk
    ·rw[ti cD]at hid;have:id=mem.ε.length:=by
      rcases bP 0 (id-mem.ε.length)with h0|h0
      ·rw[iU (by simp;omega)]at hid;cases hid
      ·omega
     subst this;simp at hid;subst hid;rw[<-ht];exact gm
  ·refine x5.Iq ht ef (fun _ h=>h) (fun t' k aj hk=>?_) (fun id b _ hb=>Ci id b hb) gm cJ;simp only[g',g1,Gh.grow,Gh.row];rw[if_neg (by omega)];exact hk
 ·exact(Cl.alloc Cs o (some (.m t))).bD ef fun d b hb=>⟨rfl,rfl,by
   have aX:own b=some (.l d):=by
    simp only[gr]at hb;split at hb
    ·cases hb
    ·exact hb
   exact RN b _ aX⟩
theorem Uv(hm:bc g own LC mem w)(hl:cQ g lb own loc w)(ho:bZ base own w){t n k sz cap b:Nat}{e:TypeId}{l m:List AV}{vs us:List Value}{cur:Array Value}
  (hf:FR g cd sz l vs) (hk:FR g cd sz m us) (hn:l.length=n) (Ac:m.length=k) (nr:0<k) (tK:n+k<=cap) (gm:mem.ε[t]?=some (.front n sz e)) (dn:g.rows t n=some (b,cap))
  (KI:∀q v,vs[q]?=some v->g.im b q=some v) (uG:w.heap[b]?=some (.cells cur e (0,0))):
  n*sz+us.length<=cur.size/\iW base LC g lb own loc w (.list (.own t) (l++m)) none (mem.put t (.front (n+k) sz e) true) (.slice (some ⟨b,0,none⟩) (n+k) cap) (w.setRow b (arr cur (n*sz) us)):=by
 obtain⟨h0,b',PF,h1,h2,h3,⟨a,h4,h5⟩,h6,h7,h8⟩:=hm.blk t _ gm;rw[dn]at h1;cases h1;rw[uG]at h4;cases h4;have hul:us.length=k*sz:=by rw[<-Ac];exact hk.1
 have Hg:vs.length=n*sz:=by rw[<-hn];exact hf.1
 have v_:n*sz+us.length<=cur.size:=by rw[hul,h5,<-kV];exact rQ _ tK
 refine⟨v_,?_⟩;have wv:t<mem.ε.length:=(lx.1 gm).1;have Lp:g.rows t (n+k)=none:=by
  cases hx:g.rows t (n+k)with
  |none=>rfl
  |some x=>have:=h7 _ x hx;omega
 let g1:Gh:= {g with im:=fun b' q=>if b'=b then(if n*sz<=q/\q<n*sz+us.length then us[q-n*sz]? else g.im b q)else g.im b' q};let g':=g1.grow t (n+k) b cap;have oO:g.sub g1:=⟨fun b' q x hx=>(by
  simp only[g1]
  split
  ·rename_i gj;subst gj;rw[if_neg]
   ·exact hx
   ·rintro⟨hq,_⟩;rw[h6 q hq]at hx;cases hx
  ·exact hx),fun _ _ h=>h,fun _ _ _ h=>h⟩
 have ef:g.sub g':=Gh.Dl oO (QM (by exact Lp));have τ:=ep.setRow g w (arr cur (n*sz) us) h3;have jg:∀b',b'≠b->∀q,g'.im b' q=g.im b' q:=fun b' aj q=>by simp[g',g1,Gh.grow,aj]
 have YO:(arr cur (n*sz) us).size=cur.size:=by simp[arr];omega
 have cJ:∀b' q x,g'.im b' q=some x->(w.setRow b (arr cur (n*sz) us)).cell? ⟨b',q,none⟩=some x:=by
  intro b' q x hx;by_cases gj:b'=b
  ·subst gj;simp only[tm,setRow_heap w b' cur _ e _ uG];have fS:(if n*sz<=q/\q<n*sz+us.length then us[q-n*sz]? else g.im b' q)=some x:=by simpa[g',g1,Gh.grow]using hx
   simp only[ahz,hS,if_false];split at fS
   ·rename_i hq;have:(arr cur (n*sz) us)[q]?=us[q-n*sz]?:=by
     have aac:min (n*sz) cur.size=n*sz:=by omega
     simp only[arr,IE];rw[cr,ti (by simp;omega),eg (by simp;omega)];simp[aac]
    rw[this];exact fS
   ·rename_i hq;have ya:q<n*sz:=by
     rcases bP q (n*sz)with h|h
     ·exact h
     ·rw[h6 q h]at fS;cases fS
    have hold:=hm.im _ _ _ fS;simp only[tm,uG,ahz,hS,if_false]at hold;have:(arr cur (n*sz) us)[q]?=cur[q]?:=by simp only[arr,IE];rw[cr,eg (by simp;omega)];simp[ya]
    rw[this];exact hold
  ·rw[jg b' gj]at hx;rw[pO (Go.setRow_other w b b' _ gj)];exact hm.im _ _ _ hx
 refine⟨g',lb,own,⟨ef,τ.size,τ.os,τ.tape,τ.output,τ.bD,τ.kg,fun b' _ zO q=>jg b' (by rintro rfl;rw[h3]at zO;cases zO) q⟩,fun _ _ _ h=>h,?_,?_,?_,ho.setRow _ _⟩
 ·refine VR.HS (sz:=sz) ((hf.append hk).mono ef (fun _ _ _ h=>by cases h)) (by simp[hn,Ac]) tK ⟨rfl,by simp[g',Gh.grow]⟩ (fun q v hq=>?_);rw[ly];show(if b=b then _ else _)=some v;rw[if_pos rfl];rcases bP q vs.length with ν|cD
  ·rw[eg ν]at hq;rw[if_neg (by omega)];exact KI q v hq
  ·rw[ti cD]at hq;have RT:q-vs.length<us.length:=(lx.1 hq).1;rw[if_pos (by omega),<-Hg];exact hq
 ·refine hm.Iq wv ef (fun _ h=>h) (fun t' k' aj dm=>?_) (fun id b' aj aX=>?_) ?_ cJ
  ·simp only[g',g1,Gh.grow];rw[if_neg (by omega)];exact dm
  ·have sv:b'≠b:=by rintro rfl;rw[h3]at aX;cases aX;exact aj rfl
   exact⟨rfl,Go.setRow_other w b b' _ sv,jg b' sv⟩
  ·refine⟨h0,b,cap,by simp[g',Gh.grow],tK,h3,⟨_,setRow_heap w b cur _ e _ uG,by rw[YO];exact h5⟩,fun q hq=>?_,fun m' x hx=>?_,h8⟩
   ·show(if b=b then _ else _)=none;rw[kV]at hq;rw[if_pos rfl,if_neg (by omega)];exact h6 q (by omega)
   ·simp only[g',g1,Gh.grow]at hx;split at hx
    ·rename_i h;omega
    ·have:=h7 m' x hx;omega
 ·exact hl.bD ef fun d b' aX=>by
   have sv:b'≠b:=by rintro rfl;rw[h3]at aX;cases aX
   exact⟨rfl,Go.setRow_other w b b' _ sv,jg b' sv⟩
theorem M'{ag:Bool}{sz:Nat}{v:AV}(h:shaped ag sz v=true):v.cells.length=sz:=by cases v<;>simp_all [shaped,AV.cells,AV.one]
set_option maxHeartbeats 2000000 in
theorem VK(hm:bc g own LC mem w)(hl:cQ g lb own loc w)(ho:bZ base own w){x y:AV}{xv yv:Value}(hx:VR g lb x xv)(hy:VR g lb y yv)
  {t ty e:TypeId} {i:TypeInfo} {z:Value} (ht:P.underlying t=some (.slice e)) (hi:P.info? e=some i) (hz:i.zero=some z) (mP:z.cells.size=i.size)
  {ag:Bool} {v:AV} {m':Mem} (hr:gL mem ag i.size i.bytes e x y=some (v,m')):
  ∃(xr:Value) (w':World),(Builtin.append_ #[t,t] ty #[xv,yv]).run P w= .ok xr w'/\iW base LC g lb own loc w v none m' xr w':=by
 unfold gL at hr;split at hr
 ·rename_i c l c' m;split at hr
  ·rename_i jO;simp only[kj,List.all_eq_true,decide_eq_true_eq]at jO;obtain⟨⟨⟨⟨nV,oK⟩,h0⟩,xP⟩,hlen⟩:=jO;have aad:∀e∈m,e.cells.length=i.size:=fun e he=>M' (nV e he);have RA:∀e∈l,e.cells.length=i.size:=fun e he=>M' (oK e he);by_cases x6:m=[]
   ·subst x6;have hv:v= .list c l/\m'=mem:=by cases c<;>simp only[bj,aL]at hr<;>exact⟨hr.1.symm,hr.2.symm⟩
    obtain⟨rfl,rfl⟩:=hv;refine⟨xv,w,?_,iW.pure hm hl ho hx⟩;have LL:∃a cp,yv= .slice a 0 cp:=by
     cases hy with
     |iQ=>exact⟨_,_,rfl⟩
     |g_=>exact⟨_,_,rfl⟩
     |list _ _ _ b o sz n cap xs hn=>simp at hn;subst hn;exact⟨_,_,rfl⟩
    obtain⟨a,cp,rfl⟩:=LL;have LH:∃a n cp,xv= .slice a n cp/\n<=cp:=by
     cases hx with
     |iQ=>exact⟨_,_,_,rfl,bQ _⟩
     |g_=>exact⟨_,_,_,rfl,Nat.zero_le _⟩
     |list _ _ _ b o sz n cap xs hn dp=>exact⟨_,_,_,rfl,dp⟩
    obtain⟨a',n,dS,rfl,hle⟩:=LH;cases a<;>cases a'<;>simp[Builtin.append_,run_underlying ht,sizeOf,typeInfo,hi,Builtin.lenOf,Builtin.firstCells,loadCells,loadCellsFrom,hle,storeCells]
   ·have G3:0<m.length:=by cases m with|nil=>exact absurd rfl x6|cons=>simp
    obtain⟨yb,yo,wY,us,rfl,-,-,l_,ZH⟩:=hy.flat aad x6;have wm:∀j u,us[j]?=some u->w.cell? ((⟨yb,yo,none⟩:Addr).add j)=some u:=fun j u hj=>by rw[Addr.add_mid];exact hm.im _ _ _ (ZH j u hj)
    have wa:=l_.ρ hm;have xY:((l.length+m.length:Nat):Int)<=9223372036854775807:=by omega
    cases c with
    |any=>
     cases m with
     |nil=>exact absurd rfl x6
     |cons=>cases hr
    |full=>
     have fZ:v= .list (.own mem.ε.length) (l++m.map mem.ρ)/\m'=mem.push (.front (l.length+m.length) i.size e):=by
      cases m with
      |nil=>exact absurd rfl x6
      |cons=>simp only[bj,aL]at hr;exact⟨hr.1.symm,hr.2.symm⟩
     obtain⟨rfl,rfl⟩:=fZ;have nZ:∀k x,g.rows mem.ε.length k=some x->k<l.length+m.length:=fun k x hx=>absurd (hm.nF _ _ _ hx) (ahx _);have jf:g.mb mem.ε.length=none:=by
      cases hx:g.mb mem.ε.length with
      |none=>rfl
      |some b=>exact absurd (hm.ja _ _ hx) (ahx _)
     by_cases hle:l=[]
     ·subst hle;have LH:(xv= .slice none 0 0)\/(∃ad,xv= .slice (some ad) 0 0):=by
       cases hx with
       |g_ _ _ ad cap hc=>
        rcases hc with hc|⟨_,hc⟩
        ·cases hc
        ·exact .inr ⟨ad,by rw[hc]⟩
       |list _ _ _ b o sz n cap xs hn dp hc=>simp at hn;subst hn;exact .inr ⟨⟨b,o,none⟩,by simp only[nN]at hc;subst hc;rfl⟩
      simp only[fq,ly,cO]at xP xY nZ⊢;rcases LH with rfl|⟨ad,rfl⟩
      ·refine⟨_,_,run_append_nil (P:=P) w t ty e i z ht hi hz ⟨yb,yo,none⟩ m.length wY us l_.1 wm G3 xY (by omega),?_⟩;have:=zL (m':=mem.push (.front m.length i.size e)) hm hl ho (rest:=Builtin.zeroCells z.cells (grownCap w m.length 0 e-m.length)) wa (by simp) h0 (grownCap_ge w m.length 0 e) (by rw[size_zeroCells,mP]) nZ jf (.inl ⟨rfl,rfl⟩);exact this
      ·have hg:=run_append_grow (P:=P) w t ty e i z ht hi hz ad 0 0 [] (by simp) (by simp) ⟨yb,yo,none⟩ m.length wY us l_.1 wm (by omega) (by omega) (growslice_fits (by omega) (by simpa using xP));refine⟨_,_,hg,?_⟩;simp only[ly];have:=zL (m':=mem.push (.front m.length i.size e)) hm hl ho (rest:=Builtin.zeroCells z.cells (grownCap w m.length 0 e-m.length)) wa (by simp) h0 (grownCap_ge w m.length 0 e) (by rw[size_zeroCells,mP]) nZ jf (.inl ⟨rfl,rfl⟩);simpa using this
     ·obtain⟨b,o,cap,vs,rfl,-,hc,zW,wb⟩:=hx.flat RA hle;simp only[nN]at hc;subst hc;have holds:∀j u,vs[j]?=some u->w.cell? ((⟨b,o,none⟩:Addr).add j)=some u:=fun j u hj=>by rw[Addr.add_mid];exact hm.im _ _ _ (wb j u hj)
      have hg:=run_append_grow (P:=P) w t ty e i z ht hi hz ⟨b,o,none⟩ l.length l.length vs zW.1 holds ⟨yb,yo,none⟩ m.length wY us l_.1 wm (by omega) xY (growslice_fits (by omega) xP);refine⟨_,_,hg,?_⟩;have:=zL (m':=mem.push (.front (l.length+m.length) i.size e)) hm hl ho (rest:=Builtin.zeroCells z.cells (grownCap w (l.length+m.length) l.length e-(l.length+m.length))) (zW.append wa) (by simp) h0 (grownCap_ge w _ _ e) (by rw[size_zeroCells,mP]) nZ jf (.inl ⟨rfl,rfl⟩);simpa using this
    |nil=>
     have fZ:v= .list (.own mem.ε.length) (l++m.map mem.ρ)/\m'=mem.push (.front (l.length+m.length) i.size e):=by
      cases m with
      |nil=>exact absurd rfl x6
      |cons=>simp only[bj,aL]at hr;exact⟨hr.1.symm,hr.2.symm⟩
     obtain⟨rfl,rfl⟩:=fZ;have nZ:∀k x,g.rows mem.ε.length k=some x->k<l.length+m.length:=fun k x hx=>absurd (hm.nF _ _ _ hx) (ahx _);have jf:g.mb mem.ε.length=none:=by
      cases hx:g.mb mem.ε.length with
      |none=>rfl
      |some b=>exact absurd (hm.ja _ _ hx) (ahx _)
     obtain⟨rfl,rfl⟩:l=[]/\xv= .slice none 0 0:=by
      cases hx with
      |iQ=>exact⟨rfl,rfl⟩
      |g_ _ _ a cap hc=>rcases hc with hc|⟨hc,_⟩<;>cases hc
      |list _ _ _ b o sz n cap xs hn dp hc=>exact hc.elim
     simp only[fq,ly,cO]at xP xY nZ⊢;refine⟨_,_,run_append_nil (P:=P) w t ty e i z ht hi hz ⟨yb,yo,none⟩ m.length wY us l_.1 wm G3 xY (by omega),?_⟩;exact zL (m':=mem.push (.front m.length i.size e)) hm hl ho (rest:=Builtin.zeroCells z.cells (grownCap w m.length 0 e-m.length)) wa (by simp) h0 (grownCap_ge w m.length 0 e) (by rw[size_zeroCells,mP]) nZ jf (.inl ⟨rfl,rfl⟩)
    |own tg=>
     have fZ:mem.ε[tg]?=some (.front l.length i.size e)/\v= .list (.own tg) (l++m.map mem.ρ)/\m'=mem.put tg (.front (l.length+m.length) i.size e) true:=by
      cases m with
      |nil=>exact absurd rfl x6
      |cons a m=>
       simp only[]at hr
       split at hr
       ·rename_i gm;split at hr
        ·rename_i hc;obtain⟨rfl,rfl,rfl⟩:=hc;simp only[bj,aL]at hr;exact⟨gm,hr.1.symm,hr.2.symm⟩
        ·cases hr
       ·cases hr
     obtain⟨gm,rfl,rfl⟩:=fZ;have wv:tg<mem.ε.length:=(lx.1 gm).1;obtain⟨-,b1,ag0,qn,YY,ahh,⟨cur,uG,Re⟩,ahc,KV,jf⟩:=hm.blk tg _ gm;by_cases hle:l=[]
     ·subst hle;cases hx with
      |g_ _ _ a cap hc=>rcases hc with hc|⟨hc,_⟩<;>cases hc
      |list _ _ _ b o sz n cap xs hn dp hc=>
       simp at hn;subst hn
       obtain⟨rfl,dn⟩:=hc;simp only[fq]at qn;rw[dn]at qn;simp only[bj,aL]at qn;obtain⟨rfl,rfl⟩:=qn;simp only[fq,ly,cO]at xP xY KV gm YY⊢;by_cases tK:m.length<=cap
       ·obtain⟨v_,qj⟩:=Uv hm hl ho (FR.nil i.size) wa (by simp) (by simp) G3 (by omega) gm dn (by simp) uG;simp only[Nat.zero_mul,ly,cO]at v_ qj;have hg:=run_append_room (P:=P) w t ty e i ht hi b 0 cap cur uG ⟨yb,yo,none⟩ m.length wY us l_.1 wm l_.2.2.1 (by omega) (by omega);simp only[ly,Nat.zero_mul]at hg;have he:arr cur 0 us=(List.take 0 cur.toList++us++List.drop us.length cur.toList).toArray:=by simp[arr]
        rw[<-he]at hg;exact⟨_,_,hg,qj⟩
       ·have hg:=run_append_grow (P:=P) w t ty e i z ht hi hz ⟨b,0,none⟩ 0 cap [] (by simp) (by simp) ⟨yb,yo,none⟩ m.length wY us l_.1 wm (by omega) (by omega) (growslice_fits (by omega) (by simpa using xP));refine⟨_,_,hg,?_⟩;simp only[ly];have:=zL (m':=mem.put tg (.front m.length i.size e) true) hm hl ho (rest:=Builtin.zeroCells z.cells (grownCap w m.length cap e-m.length)) wa (by simp) h0 (grownCap_ge w m.length cap e) (by rw[size_zeroCells,mP]) (fun k x hk=>by have:=KV k x hk;omega) jf (.inr ⟨wv,rfl⟩);simpa using this
     ·obtain⟨b,o,cap,vs,rfl,-,hc,zW,wb⟩:=hx.flat RA hle;obtain⟨rfl,dn⟩:=hc;rw[dn]at qn;simp only[bj,aL]at qn;obtain⟨rfl,rfl⟩:=qn;by_cases tK:l.length+m.length<=cap
      ·obtain⟨v_,qj⟩:=Uv hm hl ho zW wa rfl (by simp) G3 tK gm dn (fun q v hq=>by simpa using wb q v hq) uG;have hg:=run_append_room (P:=P) w t ty e i ht hi b l.length cap cur uG ⟨yb,yo,none⟩ m.length wY us l_.1 wm l_.2.2.1 tK v_;exact⟨_,_,hg,qj⟩
      ·have holds:∀j u,vs[j]?=some u->w.cell? ((⟨b,0,none⟩:Addr).add j)=some u:=fun j u hj=>by rw[Addr.add_mid];exact hm.im _ _ _ (wb j u hj)
       have hg:=run_append_grow (P:=P) w t ty e i z ht hi hz ⟨b,0,none⟩ l.length cap vs zW.1 holds ⟨yb,yo,none⟩ m.length wY us l_.1 wm (by omega) xY (growslice_fits (by omega) xP);refine⟨_,_,hg,?_⟩;have:=zL (m':=mem.put tg (.front (l.length+m.length) i.size e) true) hm hl ho (rest:=Builtin.zeroCells z.cells (grownCap w (l.length+m.length) cap e-(l.length+m.length))) (zW.append wa) (by simp) h0 (grownCap_ge w _ _ e) (by rw[size_zeroCells,mP]) (fun k x hk=>by have:=KV k x hk;omega) jf (.inr ⟨wv,rfl⟩);simpa using this
  ·cases hr
 ·cases hr
end
end Go.ab
