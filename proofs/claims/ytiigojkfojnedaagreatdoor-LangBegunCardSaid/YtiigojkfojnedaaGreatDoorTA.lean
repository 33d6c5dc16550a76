import Derived.OrdersIn
import Derived.LoopNIn
import Derived.Deep.MidRow
import Derived.Below
import Derived.Laws.StructEq
import Derived.Laws.Build
set_option linter.all false
set_option maxRecDepth 100000
set_option maxHeartbeats 8000000
open Nat renaming min->ak8,le_refl->bA,lt_of_lt_of_le->kj,lt_or_ge->cX,lt_irrefl->B6,le_of_lt->Af,mul_le_mul_right->mq,add_mul->kF,mul_comm->ak',zero_add->lj,zero_le->q_,zero_mul->alb,add_assoc->qc,add_zero->qd
open Option renaming map_eq_some_iff->bE,map_some->qh,isSome_none->ala,map_none->alf
open List renaming map_cons->aA,map_nil->aP,getElem_map->iY,mem_map->eT,length_map->cF,getElem_cons_zero->lE,getElem?_take->Aa,getElem?_drop->ak9,getElem_take->BX,getElem_drop->xZ,mem_of_mem_drop->tM,mem_of_mem_take->pn,mem_iff_getElem->pj,range->qZ,getElem?_map->nD,getElem?_eq_none->hU,getElem?_range->ak_,getElem_range->J4,mem_range->Ad,length_append->cD,length_cons->cE,length_nil->eI,getElem?_append_left->eo,getElem?_append_right->tL,getElem_append_left->xX,getElem_append_right->xY,drop_take->z_,take_of_length_le->fw,mem_append->dE,length_set->mS,getElem_mem->df,getElem?_eq_some_iff->fu,getD_eq_getElem?_getD->nC,getElem?_eq_getElem->dN,getElem?_toArray->J1,append_assoc->bH,all_eq_true->dS,nil_append->bG,extract_eq_take_drop->Qd,drop_of_length_le->alg,map_map->dc,length_eraseIdx_of_lt->alk
open Bool renaming and_eq_true->dW,false_eq_true->jI,or_eq_true->xU,and_self->zY
open Go.World renaming cell?->sx
open Array renaming getElem_toList->ml,getElem?_eq_some_iff->zX,toList_extract->alc,length_toList->wu,foldl_toList->ald,toList_zipIdx->ale,getElem?_eq_getElem->wq,range->alh,toArray_toList->uW,getElem?_setIfInBounds_ne->JP,getElem_push->ali,eraseIdxIfInBounds->alj
open Option.some renaming injEq->bc
open Prod.mk renaming injEq->az
namespace Go.Δ
inductive ξ
 |nil
 |any
 |full
 |own (t:Nat)
 deriving DecidableEq
inductive AV
 |undef
 |cU
 |int (k:IntKind) (n:Int)
 |bool (b:Bool)
 |str (s:List Nat)
 |iU
 |aj (d v off:Nat)
 |μ (id off:Nat)
 |ref (l:List AV)
 |list (c:ξ) (l:List AV)
 |sl (kd id off n cap:Nat)
 |agg (l:List AV)
 |aU (l:List AV)
 |fn (f:Fn) (first cap:List AV)
 |fV
 |iface (t:TypeId) (v:AV)
 |gx
 |map (id:Nat)
 |gY
 deriving Inhabited
def AV.cells:AV->List AV
 | .agg l=>l
 | .aU _=>[]
 | .undef=>[]
 |v=>[v]
def AV.one:AV->Bool
 | .agg _=>false
 | .aU _=>false
 | .undef=>false
 |_=>true
mutual
def AV.beq:AV->AV->Bool
 | .undef,.undef=>true
 | .cU,.cU=>true
 | .int k n,.int k' n'=>decide (k=k')&&decide (n=n')
 | .bool b,.bool b'=>b==b'
 | .str s,.str s'=>decide (s=s')
 | .iU,.iU=>true
 | .aj d v o,.aj d' v' o'=>decide (d=d')&&decide (v=v')&&decide (o=o')
 | .μ d o,.μ d' o'=>decide (d=d')&&decide (o=o')
 | .ref l,.ref l'=>AV.gS l l'
 | .list c l,.list c' l'=>decide (c=c')&&AV.gS l l'
 | .sl kd i o n c,.sl kd' i' o' n' c'=>decide (kd=kd')&&decide (i=i')&&decide (o=o')&&decide (n=n')&&decide (c=c')
 | .agg l,.agg l'=>AV.gS l l'
 | .aU l,.aU l'=>AV.gS l l'
 | .fn f a b,.fn f' a' b'=>decide (f=f')&&AV.gS a a'&&AV.gS b b'
 | .fV,.fV=>true
 | .iface t v,.iface t' v'=>decide (t=t')&&AV.beq v v'
 | .gx,.gx=>true
 | .map i,.map i'=>decide (i=i')
 | .gY,.gY=>true
 |_,_=>false
def AV.gS:List AV->List AV->Bool
 |[],[]=>true
 |a::l,b::l'=>AV.beq a b&&AV.gS l l'
 |_,_=>false
end
def ξ.exp(n:Nat)(k:Bool):ξ->ξ
 | .own t=>if k&&decide (t<n)then .own t else .any
 | .full=>if k then .full else .any
 | .any=> .any
 | .nil=> .nil
def Fn.below(n:Nat):Fn->Bool
 | .func _=>true
 | .methodOf _ _=>true
 | .yield l=>decide (l<n)
 |_=>false
mutual
def exp(n:Nat)(k:Bool):AV->AV
 | .aj _ _ _=> .cU
 | .μ id off=>if id<n then .μ id off else .cU
 | .ref l=> .ref (bn n k l)
 | .list c l=> .list (c.exp n k) (bn n k l)
 | .sl kd id off m cap=>if id<n then .sl kd id off m cap else .cU
 | .agg l=> .agg (bn n k l)
 | .aU l=> .aU (bn n k l)
 | .fn f a b=>if Fn.below n f then .fn f (bn n k a) (bn n k b)else .cU
 | .iface t v=> .iface t (exp n k v)
 | .map id=>if id<n then .map id else .cU
 |v=>v
def bn(n:Nat)(k:Bool):List AV->List AV
 |[]=>[]
 |v::l=>exp n k v::bn n k l
end
mutual
def ν:AV->AV
 | .aj _ _ _=> .cU
 | .ref l=> .ref (cL l)
 | .list c l=> .list c (cL l)
 | .agg l=> .agg (cL l)
 | .aU l=> .aU (cL l)
 | .fn f a b=> .fn f (cL a) (cL b)
 | .iface t v=> .iface t (ν v)
 |v=>v
def cL:List AV->List AV
 |[]=>[]
 |v::l=>ν v::cL l
end
mutual
def fE(n:Nat)(hp:Nat->Nat->AV)(hs:Nat->Nat->Nat->Nat->AV):AV->AV
 | .aj _ _ _=> .cU
 | .μ id off=>if id<n then .μ id off else hp id off
 | .ref l=> .ref (oF n hp hs l)
 | .list c l=> .list (c.exp n false) (oF n hp hs l)
 | .sl kd id off m cap=>if id<n then .sl kd id off m cap else hs kd id off m
 | .agg l=> .agg (oF n hp hs l)
 | .aU l=> .aU (oF n hp hs l)
 | .fn f a b=>if Fn.below n f then .fn f (oF n hp hs a) (oF n hp hs b)else .cU
 | .iface t v=> .iface t (fE n hp hs v)
 | .map id=>if id<n then .map id else .cU
 |v=>v
def oF(n:Nat)(hp:Nat->Nat->AV)(hs:Nat->Nat->Nat->Nat->AV):List AV->List AV
 |[]=>[]
 |v::l=>fE n hp hs v::oF n hp hs l
end
def chunk(s:Nat):Nat->List AV->List AV
 |0,_=>[]
 |m+1,l=> .agg (l.take s)::chunk s m (l.drop s)
theorem qm(n:Nat)(hp:Nat->Nat->AV)(hs:Nat->Nat->Nat->Nat->AV)(l:List AV):oF n hp hs l=l.map (fE n hp hs):=by
 induction l with
 |nil=>rfl
 |cons a l ih=>simp[oF,ih]
def ξ.lo(n:Nat):ξ->Bool
 | .own t=>decide (t<=n)
 |_=>true
mutual
def lo(n:Nat):AV->Bool
 | .μ id _=>decide (id<=n)
 | .ref l=>bo n l
 | .list c l=>c.lo n&&bo n l
 | .sl _ id _ _ _=>decide (id<=n)
 | .agg l=>bo n l
 | .aU l=>bo n l
 | .fn f a b=>Fn.below (n+1) f&&bo n a&&bo n b
 | .iface _ v=>lo n v
 | .map id=>decide (id<=n)
 |_=>true
def bo(n:Nat):List AV->Bool
 |[]=>true
 |v::l=>lo n v&&bo n l
end
mutual
def plain:AV->Bool
 | .undef| .cU| .int _ _| .bool _| .str _| .iU| .fV| .gx| .gY=>true
 | .aj _ _ _=>false
 | .μ _ _=>false
 | .ref _=>false
 | .list c l=>(decide (c= .any)||decide (c= .nil))&&sd l
 | .sl _ _ _ _ _=>false
 | .agg l=>sd l
 | .aU l=>sd l
 | .fn (.func _) [] []=>true
 | .fn _ _ _=>false
 | .iface _ v=>plain v
 | .map _=>false
def sd:List AV->Bool
 |[]=>true
 |v::l=>plain v&&sd l
end
theorem fQ(n:Nat)(k:Bool)(l:List AV):bn n k l=l.map (exp n k):=by
 induction l with
 |nil=>rfl
 |cons a l ih=>simp[bn,ih]
theorem fM(l:List AV):cL l=l.map ν:=by
 induction l with
 |nil=>rfl
 |cons a l ih=>simp[cL,ih]
theorem np(n:Nat)(l:List AV):bo n l=l.all (lo n):=by
 induction l with
 |nil=>rfl
 |cons a l ih=>simp[bo,ih]
def aI:List AV->Nat->AV
 |[],_=> .undef
 |v::_,0=>v
 |_::l,n+1=>aI l n
def mN:List AV->Nat->AV->List AV
 |[],0,v=>[v]
 |[],n+1,v=> .undef::mN [] n v
 |_::l,0,v=>v::l
 |a::l,n+1,v=>a::mN l n v
theorem fA(l:List AV)(i:Nat)(v:AV)(j:Nat):aI (mN l i v) j=if i=j then v else aI l j:=by
 induction i generalizing l j with
 |zero=>cases l<;>cases j<;>simp[mN,aI]
 |succ i ih=>
  cases l with
  |nil=>cases j with
   |zero=>simp[mN,aI]
   |succ j=>simp[mN,aI,ih]
  |cons a l=>cases j with
   |zero=>simp[mN,aI]
   |succ j=>simp[mN,aI,ih]
inductive bw
 |t (n:Nat)
 |c (v:AV)
 |g (n:Nat)
 deriving Inhabited
inductive KK
 |int
 |str
 |bool
 deriving DecidableEq,Inhabited
inductive NK
 |ptr
 |slice
 |fn
 |iface
 |map
 deriving DecidableEq,Inhabited
inductive CK
 |int (k:IntKind)
 |same
 |char
 deriving Inhabited
inductive AO
 |bad
 |mv (x:bw)
 |pick (c a b:bw)
 |alloc (oG:Bool) (zero:List AV)
 |box (oG:Bool) (n:Nat) (x:bw)
 |build (zero:List AV) (parts:List (Nat×Nat×bw))
 |Ap (ag:Bool) (sz:Nat) (xs:List bw)
 |ld (ag:Bool) (n:Nat) (a:bw)
 |st (n:Nat) (a x:bw)
 |IX (x:bw)
 |bin (op:BinOp) (x y:bw)
 |eqs (neg:Bool) (ks:List KK) (x y:bw)
 |CG (neg:Bool) (x y:bw)
 |Ij (neg:Bool) (k:NK) (x:bw)
 |un (op:UnOp) (x:bw)
 |conv (k:CK) (x:bw)
 |OU (t:TypeId) (x:bw)
 |zs (f:Fn) (first cap:List bw)
 |fa (off:Nat) (x:bw)
 |CM (ag:Bool) (off n:Nat) (x:bw)
 |ia (sz:Nat) (x i:bw)
 |Oe (len sz:Nat) (x i:bw)
 |Oh (ag:Bool) (len sz:Nat) (x i:bw)
 |qL (x i:bw)
 |lookup (kk:KK) (zero:AV) (ok:Bool) (m k:bw)
 |mapup (kk:KK) (m k v:bw)
 |mkmap
 |EH (sz:Nat) (x:bw) (lo hi mx:Option bw)
 |Js (x:bw) (lo hi:Option bw)
 |ext (x:bw) (k:Nat)
 |callz (f:bw) (args:List bw)
 |appm (ag:Bool) (sz bytes:Nat) (e:TypeId) (x y:bw)
 |call (f:bw) (args:List bw)
 |app (ag:Bool) (sz bytes:Nat) (e:TypeId) (x y:bw)
 |len (x:bw)
 |lens (x:bw)
 |D3 (x:bw)
 |OI (n:Nat)
 |mkslc (kd:Nat) (zero:List AV) (bytes:Nat) (n c:bw)
 |cpy (sz:Nat) (x y:bw)
 |clr (zero:List AV) (x:bw)
 |del (kk:KK) (m k:bw)
 |max (x y:bw)
 |min (x y:bw)
 |abld (T e:TypeId)
 |tB (x:bw)
 |D' (x:bw)
 deriving Inhabited
structure aV where
 dst:Option Nat
 op:AO
 guard:Option (Nat×Bool)
 deriving Inhabited
inductive AC
 |skip
 |ops (l:List aV)
 |draw (l:List aV) (cf af:List (Nat×Nat))
 |seq (a b:AC)
 |cond (x:bw) (a b:AC)
 |block (id:Nat) (a:AC)
 |loop (a:AC)
 |exit (id:Nat)
 |ret
 |BC (f:bw) (ps:List Nat) (fO body:AC)
 |Ek (ds:List Nat)
 |bad
 deriving Inhabited
inductive LS
 |ready
 |busy
 |done (j:Option Nat)
 deriving DecidableEq,Inhabited
inductive θ
 |cells (l:List AV)
 |iter (s:List Nat) (pos:Nat)
 |dead
 |nH (T e:TypeId) (s:List Nat)
 |map (es:List (AV×AV))
 |front (n sz:Nat) (e:TypeId)
 |loop (env:List AV) (ps:List Nat) (fO body:AC) (st:LS)
 deriving Inhabited
abbrev Loc:=List (Nat×Nat×θ)
def bQ:Loc->Nat->Option (Nat×θ)
 |[],_=>none
 |(d,x)::l,d'=>if d=d' then some x else bQ l d'
def xE:Loc->Nat->(Nat×θ)->Loc
 |[],d,x=>[(d,x)]
 |(d,x)::l,d',x'=>if d=d' then(d',x')::l else(d,x)::xE l d' x'
theorem gX(l:Loc)(d:Nat)(x:Nat×θ)(d':Nat):bQ (xE l d x) d'=if d=d' then some x else bQ l d':=by
 induction l with
 |nil=>simp[xE,bQ]
 |cons a l ih=>
  obtain⟨e,y⟩:=a
  by_cases h:e=d
  ·subst h;by_cases h':e=d'<;>simp[xE,bQ,h']
  ·by_cases h':e=d'
   ·subst h';simp[xE,bQ,h,Ne.symm h]
   ·simp[xE,bQ,h,h',ih]
structure Mem where
 ε:List θ
 ζ:List Nat
 deriving Inhabited
def dd(l:List AV)(off:Nat)(vs:List AV):List AV:=l.take off++vs++l.drop (off+vs.length)
def rd(lk:Nat->Option (Nat×θ))(mem:Mem)(p:AV)(n:Nat):Option (List AV):=
 match p with
 | .aj d v off=>
  match lk d with
  |some (v',.cells l)=>if v'=v/\off+n<=l.length then some ((l.drop off).take n)else none
  |_=>none
 | .μ id off=>
  match mem.ε[id]? with
  |some (.cells l)=>if off+n<=l.length then some ((l.drop off).take n)else none
  |_=>none
 | .ref l=>if n<=l.length then some (l.take n)else none
 |_=>none
abbrev kG:=Option (Nat×Nat×θ)
def Mem.put(m:Mem)(id:Nat)(b:θ)(ok:Bool):Mem:= {ε:=m.ε.set id b,ζ:=if ok then m.ζ else id::m.ζ}
def Mem.push(m:Mem)(b:θ):Mem:= {m with ε:=m.ε++[b]}
def Mem.ν(_:Mem)(v:AV):AV:=Δ.ν v
def wr(lk:Nat->Option (Nat×θ))(mem:Mem)(p:AV)(vs:List AV):Option (kG×Mem):=
 match p with
 | .aj d v off=>
  match lk d with
  |some (v',.cells l)=>if v'=v/\off+vs.length<=l.length then some (some (d,v,.cells (dd l off vs)),mem)else none
  |_=>none
 | .μ id off=>
  match mem.ε[id]? with
  |some (.cells l)=>if off+vs.length<=l.length then some (none,mem.put id (.cells (dd l off (vs.map mem.ν))) (bo id (vs.map mem.ν)))else none
  |_=>none
 |_=>none
def iC(op:BinOp)(k:IntKind)(a b:Int):Option AV:=
 match op with
 | .add=>some (.int k (k.wrap (a+b)))
 | .sub=>some (.int k (k.wrap (a-b)))
 | .mul=>some (.int k (k.wrap (a*b)))
 | .quo=>if b=0 then none else some (.int k (k.wrap (a.tdiv b)))
 | .rem=>if b=0 then none else some (.int k (a.tmod b))
 | .and=>some (.int k (k.wrap (BitVec.ofInt k.bits a&&&BitVec.ofInt k.bits b).toNat))
 | .or=>some (.int k (k.wrap (BitVec.ofInt k.bits a|||BitVec.ofInt k.bits b).toNat))
 | .xor=>some (.int k (k.wrap (BitVec.ofInt k.bits a^^^BitVec.ofInt k.bits b).toNat))
 | .andNot=>some (.int k (k.wrap (BitVec.ofInt k.bits a&&& ~~~BitVec.ofInt k.bits b).toNat))
 | .eql=>some (.bool (a==b))
 | .neq=>some (.bool (a !=b))
 | .lss=>some (.bool (decide (a<b)))
 | .leq=>some (.bool (decide (a<=b)))
 | .gtr=>some (.bool (decide (a>b)))
 | .geq=>some (.bool (decide (a≥b)))
 |_=>none
def xI:List Nat->List Nat->Bool
 |_,[]=>false
 |[],_::_=>true
 |a::x,b::y=>decide (a<b)||(decide (a=b)&&xI x y)
def cA(op:BinOp)(a b:List Nat):Option AV:=
 match op with
 | .add=>if((a.length+b.length:Nat):Int)>IntKind.i64.max then none else some (.str (a++b))
 | .eql=>some (.bool (decide (a=b)))
 | .neq=>some (.bool (!decide (a=b)))
 | .lss=>some (.bool (xI a b))
 | .leq=>some (.bool (xI a b||decide (a=b)))
 | .gtr=>some (.bool (!(xI a b||decide (a=b))))
 | .geq=>some (.bool (!xI a b))
 |_=>none
def ib(op:BinOp)(x y:AV):Option AV:=
 match x,y with
 | .int k a,.int k' b=>
  match op with
  | .shl=>if b<0 then none else some (.int k (k.wrap (a*2^ak8 b.toNat k.bits)))
  | .shr=>if b<0 then none else some (.int k (a.fdiv (2^ak8 b.toNat k.bits)))
  |_=>if k=k' then iC op k a b else none
 | .str a,.str b=>cA op a b
 |_,_=>none
def kL:List KK->List AV->List AV->Option Bool
 |[],[],[]=>some true
 | .int::ks,.int k a::l,.int k' b::l'=>if k=k' then(kL ks l l').map (decide (a=b)&&·)else none
 | .str::ks,.str a::l,.str b::l'=>(kL ks l l').map (decide (a=b)&&·)
 | .bool::ks,.bool a::l,.bool b::l'=>(kL ks l l').map ((a==b)&&·)
 |_,_,_=>none
def isNil:NK->AV->Option Bool
 | .ptr,.iU=>some true
 | .ptr,.aj _ _ _=>some false
 | .ptr,.μ _ _=>some false
 | .ptr,.ref _=>some false
 | .slice,.list .nil _=>some true
 | .slice,.list _ _=>some false
 | .slice,.sl _ _ _ _ _=>some false
 | .fn,.fV=>some true
 | .fn,.fn _ _ _=>some false
 | .iface,.gx=>some true
 | .iface,.iface _ _=>some false
 | .map,.gY=>some true
 | .map,.map _=>some false
 |_,_=>none
def iL(op:UnOp)(x:AV):Option AV:=
 match op,x with
 | .neg,.int k n=>some (.int k (k.wrap (0-n)))
 | .not,.bool b=>some (.bool !b)
 |_,_=>none
def lq(k:CK)(x:AV):Option AV:=
 match k,x with
 | .int k,.int _ n=>some (.int k (k.wrap n))
 | .same,.str s=>some (.str s)
 | .char,.int _ n=>some (.str ((Utf8.encode n).data.toList.map UInt8.toNat))
 |_,_=>none
def shaped(ag:Bool)(sz:Nat):AV->Bool
 | .agg l=>ag&&decide (l.length=sz)
 |v=>!ag&&v.one&&decide (sz=1)
def single:List AV->Option AV
 |[v]=>some v
 |_=>none
def gL(ag:Bool)(l:List AV):Option AV:=if ag then some (.agg l)else single l
def jO:AV->AV->Option Bool
 | .str a,.str b=>some (decide (a=b))
 | .int k a,.int k' b=>if k=k' then some (decide (a=b))else none
 | .bool a,.bool b=>some (a==b)
 |_,_=>none
def jD(k:AV):List (AV×AV)->Option (Option AV)
 |[]=>some none
 |(k',v)::l=>match jO k k' with
  |some true=>some (some v)
  |some false=>jD k l
  |none=>none
def uC(k v:AV):List (AV×AV)->Option (List (AV×AV))
 |[]=>some [(k,v)]
 |(k',v')::l=>match jO k k' with
  |some true=>some ((k,v)::l)
  |some false=>(uC k v l).map ((k',v')::·)
  |none=>none
def xF(k:AV):List (AV×AV)->Option (List (AV×AV))
 |[]=>some []
 |(k',v')::l=>match jO k k' with
  |some true=>some l
  |some false=>(xF k l).map ((k',v')::·)
  |none=>none
def isKey:KK->AV->Bool
 | .str,.str _=>true
 | .int,.int _ _=>true
 | .bool,.bool _=>true
 |_,_=>false
def bound(ev:bw->AV)(top:Nat):Option bw->Nat->Option Nat
 |none,FK=>some FK
 |some x,_=>match ev x with
  | .int _ n=>if 0<=n/\n<=top then some n.toNat else none
  |_=>none
def iH(p:AV)(off:Nat):Option AV:=
 match p with
 | .aj d v o=>some (.aj d v (o+off))
 | .μ id o=>some (.μ id (o+off))
 | .ref l=>if off<=l.length then some (.ref (l.drop off))else none
 |_=>none
def dp(ev:bw->AV):List (Nat×Nat×bw)->List AV->Option (List AV)
 |[],cs=>some cs
 |(off,size,x)::rest,cs=>if(ev x).cells.length=size/\off+size<=cs.length then dp ev rest (dd cs off (ev x).cells)else none
def bL(lk:Nat->Option (Nat×θ))(d:Nat):Nat:=
 match lk d with
 |none=>0
 |some (v,_)=>v+1
def newVar(lk:Nat->Option (Nat×θ))(mem:Mem)(oG:Bool)(dst:Option Nat)(b:List AV):Option (AV×kG×Mem):=
 if oG then some (.μ mem.ε.length 0,none,mem.push (.cells (b.map mem.ν)))
 else match dst with
  |some d=>some (.aj d (bL lk d) 0,some (d,bL lk d,.cells b),mem)
  |none=>none
def aK(bs:List θ)(n:Nat):Nat->AV->AV
 |0=>exp n false
 |k+1=>fE n
   (fun id off=>match bs[id]? with
    |some (.cells l)=> .ref ((l.drop off).map (aK bs n k))
    |_=> .cU)
   (fun kd id off m=>match bs[id]? with
    |some (.cells l)=>if off+m*Nat.max kd 1<=l.length then
      (if kd=0 then(if((l.drop off).take m).all AV.one then .list .any (((l.drop off).take m).map (aK bs n k))else .cU)
      else .list .any (chunk kd m ((l.drop off).map (aK bs n k))))
     else .cU
    |_=> .cU)
def rep:Nat->List AV->List AV
 |0,_=>[]
 |n+1,z=>z++rep n z
def cellsOf(mem:Mem)(sz:Nat):AV->Option (Nat×List AV)
 | .list _ l=>if l.all (fun e=>decide (e.cells.length=sz))then some (l.length,l.flatMap AV.cells)else none
 | .sl _ id off n _=>match mem.ε[id]? with
  |some (.cells l)=>if off+n*sz<=l.length then some (n,(l.drop off).take (n*sz))else none
  |_=>none
 |_=>none
abbrev cu:=AV->List AV->Mem->Option (AV×Mem)
def gA(mem:Mem)(ag:Bool)(sz bytes:Nat)(e:TypeId)(x y:AV):Option (AV×Mem):=
 match x,y with
 | .list c l,.list _ m=>
  if m.all (shaped ag sz)&&l.all (shaped ag sz)&&decide (0<sz)&&decide ((l.length+m.length)*bytes<=140737488355328)&&decide (l.length+m.length<=140737488355328)then
   match c,m with
   |c,[]=>some (.list c l,mem)
   | .full,m=>some (.list (.own mem.ε.length) (l++m.map mem.ν),mem.push (.front (l.length+m.length) sz e))
   | .nil,m=>some (.list (.own mem.ε.length) (l++m.map mem.ν),mem.push (.front (l.length+m.length) sz e))
   | .own t,m=>match mem.ε[t]? with
    |some (.front n eQ e')=>if n=l.length/\eQ=sz/\e'=e then some (.list (.own t) (l++m.map mem.ν),mem.put t (.front (l.length+m.length) sz e) true)else none
    |_=>none
   | .any,_=>none
  else none
 |_,_=>none
def wC(mem:Mem)(ag:Bool)(sz bytes:Nat)(x y:AV):Option (AV×Mem):=
 match x,y with
 | .list c [],.list _ m=>
  if m.all (shaped ag sz)&&decide (0<sz)&&decide (m.length*bytes<=140737488355328)&&decide (m.length<=140737488355328)&&decide (c= .full\/c= .nil)then
   match m with
   |[]=>some (.list c [],mem)
   |m=>some (.sl (if ag then sz else 0) mem.ε.length 0 m.length m.length,mem.push (.cells ((m.flatMap AV.cells).map mem.ν)))
  else none
 |_,_=>none
def fz(mem:Mem):AV->Option (AV×Mem)
 | .list c l=>some (.list c l,mem)
 | .sl kd id off n _=>match mem.ε[id]? with
  |some (.cells l)=>if off+n*Nat.max kd 1<=l.length/\(kd=0->((l.drop off).take n).all AV.one=true)then
    some (.list .any (if kd=0 then(l.drop off).take n else chunk kd n (l.drop off)),mem.put id .dead true)else none
  |_=>none
 |_=>none
def aH(ev:bw->AV)(lk:Nat->Option (Nat×θ))(mem:Mem)(ax:cu)(dst:Option Nat)(o:AO):Option (AV×kG×Mem):=
 match o with
 | .bad=>none
 | .mv x=>some (ev x,none,mem)
 | .pick c a b=>match ev c with
  | .bool t=>some (if t then ev a else ev b,none,mem)
  |_=>none
 | .alloc oG z=>newVar lk mem oG dst z
 | .abld T e=>some (.μ mem.ε.length 0,none,mem.push (.nH T e []))
 | .box oG n x=>if(ev x).cells.length=n then newVar lk mem oG dst (ev x).cells else none
 | .build z parts=>(dp ev parts z).map fun l=>(.agg l,none,mem)
 | .Ap ag sz xs=>if xs.all fun x=>shaped ag sz (ev x)then some (.list .full (xs.map fun x=>mem.ν (ev x)),none,mem)else none
 | .ld ag n a=>match rd lk mem (ev a) n with
  |some l=>(gL ag l).map fun v=>(v,none,mem)
  |none=>none
 | .st n a x=>if(ev x).cells.length=n then(wr lk mem (ev a) (ev x).cells).map fun(u,m)=>(.undef,u,m)else none
 | .IX x=>match ev x with
  | .aj d v o=>some (.aj d v o,none,mem)
  | .μ id o=>some (.μ id o,none,mem)
  | .ref l=>some (.ref l,none,mem)
  | .fn (.func f) a b=>some (.fn (.func f) a b,none,mem)
  | .fn (.yield f) a b=>some (.fn (.yield f) a b,none,mem)
  |_=>none
 | .bin op x y=>(ib op (ev x) (ev y)).map fun v=>(v,none,mem)
 | .eqs neg ks x y=>match ev x,ev y with
  | .agg a,.agg b=>(kL ks a b).map fun t=>(.bool (if neg then !t else t),none,mem)
  |_,_=>none
 | .CG neg x y=>match ev x,ev y with
  | .bool a,.bool b=>some (.bool (if neg then !(a==b)else a==b),none,mem)
  |_,_=>none
 | .Ij neg k x=>(isNil k (ev x)).map fun t=>(.bool (if neg then !t else t),none,mem)
 | .un op x=>(iL op (ev x)).map fun v=>(v,none,mem)
 | .conv k x=>(lq k (ev x)).map fun v=>(v,none,mem)
 | .OU t x=>some (.iface t (ev x),none,mem)
 | .zs f a b=>some (.fn f (a.map ev) (b.map ev),none,mem)
 | .fa off x=>(iH (ev x) off).map fun v=>(v,none,mem)
 | .CM ag off n x=>match ev x with
  | .agg l=>if off+n<=l.length then(gL ag ((l.drop off).take n)).map fun v=>(v,none,mem)else none
  |_=>none
 | .ia sz x i=>match ev x,ev i with
  | .list _ l,.int _ n=>if 0<=n/\n<l.length then
    match l[n.toNat]? with
    |some e=>if e.cells.length=sz then some (.ref e.cells,none,mem)else none
    |none=>none
   else none
  | .sl _ id off m _,.int _ n=>if 0<=n/\n<m then some (.μ id (off+n.toNat*sz),none,mem)else none
  |_,_=>none
 | .Oe len sz x i=>match ev i with
  | .int _ n=>if 0<=n/\n<len then(iH (ev x) (n.toNat*sz)).map fun v=>(v,none,mem)else none
  |_=>none
 | .Oh ag len sz x i=>match ev x,ev i with
  | .agg l,.int _ n=>if 0<=n/\n<len/\l.length=len*sz then(gL ag ((l.drop (n.toNat*sz)).take sz)).map fun v=>(v,none,mem)else none
  |_,_=>none
 | .qL x i=>match ev x,ev i with
  | .str s,.int _ n=>if 0<=n then(s[n.toNat]?).map fun(b:Nat)=>(AV.int .u8 (Int.ofNat b),none,mem)else none
  |_,_=>none
 | .lookup kk zero ok m k=>match ev m with
  | .gY=>if isKey kk (ev k)then some (if ok then .aU [zero,.bool false]else zero,none,mem)else none
  | .map id=>match mem.ε[id]? with
   |some (.map es)=>if isKey kk (ev k)then(jD (ev k) es).map fun r=>match r with
     |some v=>(if ok then .aU [v,.bool true]else v,none,mem)
     |none=>(if ok then .aU [zero,.bool false]else zero,none,mem)
    else none
   |_=>none
  |_=>none
 | .mapup kk m k v=>match ev m with
  | .map id=>match mem.ε[id]? with
   |some (.map es)=>if isKey kk (ev k)&&plain (ev v)then(uC (ev k) (ev v) es).map fun e_=>(.undef,none,mem.put id (.map e_) true)else none
   |_=>none
  |_=>none
 | .mkmap=>some (.map mem.ε.length,none,mem.push (.map []))
 | .EH sz x lo hi mx=>match ev x with
  | .list c l=>if l.all fun e=>decide (e.cells.length=sz)then
    match bound ev l.length mx l.length with
    |some m=>match bound ev m hi l.length with
     |some h=>match bound ev h lo 0 with
      |some b=>some (.list (if c= .nil then .nil else if mx.isSome then(if m=h then .full else .any)else if c= .full/\h=l.length then .full else .any) ((l.take h).drop b),none,mem)
      |none=>none
     |none=>none
    |none=>none
   else none
  | .sl kd id off n cap=>match mx with
   |some _=>none
   |none=>match bound ev n hi n with
    |some h=>match bound ev h lo 0 with
     |some b=>if b=0\/b<n then some (.sl kd id (off+b*sz) (h-b) (cap-b),none,mem)else none
     |none=>none
    |none=>none
  |_=>none
 | .Js x lo hi=>match ev x with
  | .str s=>match bound ev s.length hi s.length with
   |some h=>match bound ev h lo 0 with
    |some b=>some (.str ((s.take h).drop b),none,mem)
    |none=>none
   |none=>none
  |_=>none
 | .ext x k=>match ev x with
  | .aU l=>(l[k]?).map fun v=>(v,none,mem)
  |_=>none
 | .call f args=>(ax (ev f) (args.map ev) mem).map fun(v,m)=>(v,none,m)
 | .app ag sz bytes e x y=>(gA mem ag sz bytes e (ev x) (ev y)).map fun(v,m)=>(v,none,m)
 | .callz f args=>match ax (ev f) (args.map ev) mem with
  |some (v,m)=>(fz m v).map fun(v,m)=>(v,none,m)
  |none=>none
 | .appm ag sz bytes _ x y=>(wC mem ag sz bytes (ev x) (ev y)).map fun(v,m)=>(v,none,m)
 | .len x=>match ev x with
  | .list _ l=>some (.int .i64 l.length,none,mem)
  | .sl _ _ _ n _=>some (.int .i64 n,none,mem)
  |_=>none
 | .mkslc kd z bytes n c=>match ev n,ev c with
  | .int _ n,.int _ c=>if 0<=n/\n<=c/\(bytes:Int)*c<=281474976710656/\c<=9223372036854775807 then
    some (.sl kd mem.ε.length 0 n.toNat c.toNat,none,mem.push (.cells ((rep c.toNat z).map mem.ν)))
   else none
  |_,_=>none
 | .cpy sz x y=>match ev x with
  | .sl _ id off n _=>match cellsOf mem sz (ev y)with
   |some (k,cs)=>(wr (fun _=>none) mem (.μ id off) (cs.take (ak8 k n*sz))).map fun(_,m)=>(.int .i64 (ak8 k n:Nat),none,m)
   |none=>none
  |_=>none
 | .clr z x=>match ev x with
  | .list _ []=>some (.undef,none,mem)
  | .sl _ id off n _=>if n=0 then some (.undef,none,mem)else(wr (fun _=>none) mem (.μ id off) (rep n z)).map fun(_,m)=>(.undef,none,m)
  |_=>none
 | .lens x=>match ev x with
  | .str s=>some (.int .i64 s.length,none,mem)
  |_=>none
 | .OI n=>some (.int .i64 n,none,mem)
 | .D3 x=>match ev x with
  | .gY=>some (.int .i64 0,none,mem)
  | .map id=>match mem.ε[id]? with
   |some (.map es)=>some (.int .i64 es.length,none,mem)
   |_=>none
  |_=>none
 | .del kk m k=>match ev m with
  | .map id=>match mem.ε[id]? with
   |some (.map es)=>if isKey kk (ev k)then(xF (ev k) es).map fun e_=>(.undef,none,mem.put id (.map e_) true)else none
   |_=>none
  |_=>none
 | .max x y=>match ev x,ev y with
  | .int k a,.int k' b=>if k=k' then some (.int k (if b>a then b else a),none,mem)else none
  |_,_=>none
 | .min x y=>match ev x,ev y with
  | .int k a,.int k' b=>if k=k' then some (.int k (if b<a then b else a),none,mem)else none
  |_,_=>none
 | .tB x=>match ev x,dst with
  | .str s,some d=>some (.aj d (bL lk d) 0,some (d,bL lk d,.iter s 0),mem)
  |_,_=>none
 | .D' x=>match ev x with
  | .aj d v 0=>match lk d with
   |some (v',.iter s pos)=>if v'=v then
     if pos<s.length then
      let r:=Utf8.decode ⟨(s.map UInt8.ofNat).toArray⟩ pos
      some (.aU [.bool true,.int .i64 pos,.int .i32 r.1],some (d,v,.iter s (pos+r.2)),mem)
     else some (.aU [.bool false],none,mem)
    else none
   |_=>none
  |_=>none
inductive Ex
 |normal
 |exit (id:Nat)
 |ret
 deriving DecidableEq,Inhabited
structure St where
 env:List AV
 loc:Loc
 mem:Mem
 deriving Inhabited
def dr(gl:Nat->AV)(env:List AV):bw->AV
 | .t n=>aI env n
 | .c v=>v
 | .g n=>gl n
def eR(env:List AV):Option (Nat×Bool)->Option Bool
 |none=>some true
 |some (d,want)=>match aI env d with
  | .bool b=>some (b==want)
  | .undef=>some false
  |_=>none
def ff(env:List AV):Option Nat->AV->List AV
 |none,_=>env
 |some d,v=>mN env d v
def eH(loc:Loc):kG->Loc
 |none=>loc
 |some (d,v,b)=>xE loc d (v,b)
def dG(gl:Nat->AV)(ax:cu)(o:aV)(s:St):Option St:=
 match eR s.env o.guard with
 |none=>none
 |some true=>match aH (dr gl s.env) (bQ s.loc) s.mem ax o.dst o.op with
  |some (v,u,m)=>some {env:=ff s.env o.dst v,loc:=eH s.loc u,mem:=m}
  |none=>none
 |some false=>some {s with env:=ff s.env o.dst .undef}
def dT(gl:Nat->AV)(ax:cu):List aV->St->Option St
 |[],s=>some s
 |o::l,s=>match dG gl ax o s with
  |some s'=>dT gl ax l s'
  |none=>none
def ef(gl:Nat->AV)(ax:cu):List aV->St->Option (List St)
 |[],s=>some [s]
 |o::l,s=>match dG gl ax o s with
  |some s'=>(ef gl ax l s').map (s::·)
  |none=>none
def eZ:Option (List AV)->Option (List AV)->Bool
 |some a,some b=>AV.gS a b
 |_,_=>false
def c8(l:List aV)(j:Nat):Bool:=match l[j]? with
 |some o=>match o.op with
  | .st _ _ _=>true
  |_=>false
 |none=>false
def cZ(gl:Nat->AV)(l:List aV)(tr:List St)(i j:Nat):Bool:=
 match l[i]?,tr[i]?,tr[j]?,tr[j+1]? with
 |some o,some si,some sj,some EG=>
  match eR si.env o.guard,o.op with
  |some false,_=>true
  |_,.ld _ n a=>match dr gl si.env a with
   | .μ id off=>eZ (rd (fun _=>none) sj.mem (.μ id off) n) (rd (fun _=>none) si.mem (.μ id off) n)&&
     eZ (rd (fun _=>none) EG.mem (.μ id off) n) (rd (fun _=>none) si.mem (.μ id off) n)
   | .aj d v off=>!(c8 l j)||eZ (rd (bQ sj.loc) {ε:=[],ζ:=[]} (.aj d v off) n) (rd (bQ si.loc) {ε:=[],ζ:=[]} (.aj d v off) n)&&
     eZ (rd (bQ EG.loc) {ε:=[],ζ:=[]} (.aj d v off) n) (rd (bQ si.loc) {ε:=[],ζ:=[]} (.aj d v off) n)
   |_=>true
  |_,_=>false
 |_,_,_,_=>false
def pC(gl:Nat->AV)(l:List aV)(tr:List St)(i j:Nat):Bool:=
 match l[i]?,l[j]?,tr[j]? with
 |some oi,some o,some sj=>match o.op with
  | .ld _ _ a=>match dr gl sj.env a with
   | .aj d _ _=>oi.dst !=some d
   |_=>true
  |_=>false
 |_,_,_=>false
def eU(gl:Nat->AV)(ax:cu)(l:List aV)(cf af:List (Nat×Nat))(s:St):Option St:=
 match ef gl ax l s with
 |some tr=>if cf.all (fun p=>cZ gl l tr p.1 p.2)&&af.all (fun p=>pC gl l tr p.1 p.2)then tr.getLast? else none
 |none=>none
abbrev pq:=(St->Option (Ex×St))->St->Option (Ex×St)
def θ.BE(n:Nat):θ->θ
 | .cells l=> .cells (l.map (exp n true))
 |b=>b
def θ.clean(id:Nat):θ->Bool
 | .cells l=>bo id l
 |_=>true
def lS(n:Nat):List Nat->List θ->List θ
 |[],bs=>bs
 |i::l,bs=>lS n l (match bs[i]? with
  |some b=>bs.set i (b.BE n)
  |none=>bs)
def Mem.back(m0 m:Mem):Mem:=
 let n:=m0.ε.length
 let bs:=lS n m.ζ (m.ε.take n)
 {ε:=bs,ζ:=m0.ζ++m.ζ.filter fun i=>match bs[i]? with
   |some b=>!b.clean i
   |none=>false}
def AV.DW:AV->Option AV
 | .fn (.func f) a b=>some (.fn (.func f) a b)
 |_=>none
def El(d:Nat)(s:St):Option St:=
 match aI s.env d with
 | .aj d' v 0=>match bQ s.loc d with
  |some (v',.cells l)=>if d'=d/\v'=v then
    some {env:=mN s.env d (.μ s.mem.ε.length 0),loc:=xE s.loc d (v,.dead),mem:=s.mem.push (.cells (l.map s.mem.ν))}else none
  |_=>none
 |_=>none
def By:List Nat->St->Option St
 |[],s=>some s
 |d::l,s=>match El d s with
  |some s'=>By l s'
  |none=>none
def exec(gl:Nat->AV)(ax:cu)(lp:pq):AC->St->Option (Ex×St)
 | .skip,s=>some (.normal,s)
 | .ops l,s=>(dT gl ax l s).map fun s'=>(.normal,s')
 | .draw l cf af,s=>(eU gl ax l cf af s).map fun s'=>(.normal,s')
 | .seq a b,s=>match exec gl ax lp a s with
  |some (.normal,s')=>exec gl ax lp b s'
  |r=>r
 | .cond x a b,s=>match dr gl s.env x with
  | .bool t=>if t then exec gl ax lp a s else exec gl ax lp b s
  |_=>none
 | .block id a,s=>match exec gl ax lp a s with
  |some (.exit i,s')=>if i=id then some (.normal,s')else some (.exit i,s')
  |r=>r
 | .loop a,s=>lp (exec gl ax lp a) s
 | .exit id,s=>some (.exit id,s)
 | .ret,s=>some (.ret,s)
 | .BC f ps fO body,s=>
  match(dr gl s.env f).DW.bind fun f=>ax f [.fn (.yield s.mem.ε.length) [] []] {ε:=s.mem.ε++[.loop (s.env.map s.mem.ν) ps fO body .ready],ζ:=[]}with
  |some (_,m)=>match m.ε[s.mem.ε.length]? with
   |some (.loop _ _ _ _ .ready)=>some (.normal,{s with mem:=s.mem.back m})
   |some (.loop _ _ _ _ (.done none))=>some (.ret,{s with mem:=s.mem.back m})
   |some (.loop _ _ _ _ (.done (some i)))=>some (.exit i,{s with mem:=s.mem.back m})
   |_=>none
  |none=>none
 | .Ek ds,s=>(By ds s).map fun s'=>(.normal,s')
 | .bad,_=>none
def fN:Nat->pq
 |0,_,_=>none
 |n+1,body,s=>match body s with
  |some (.normal,s')=>fN n body s'
  |r=>r
inductive RV
 |tmp (t:Nat)
 |cell (a:Nat) (ag:Bool) (n:Nat)
 deriving Inhabited
structure AF where
 ntmps:Nat
 results:List RV
 code:AC
 deriving Inhabited
abbrev Prim:=List AV->Mem->Option (AV×Mem)
structure iK where
 gl:Nat->AV
 fs:Nat->Option AF
 iX:Nat->Option Prim
 bm:Nat->Bool
 alts:Nat->Option AF:=fun _=>none
def RV.get(s:St):RV->Option AV
 | .tmp t=>some (aI s.env t)
 | .cell a ag n=>match rd (bQ s.loc) s.mem (aI s.env a) n with
  |some l=>gL ag l
  |none=>none
def cH(s:St):List RV->Option (List AV)
 |[]=>some []
 |r::l=>match r.get s with
  |some v=>(cH s l).map (v::·)
  |none=>none
def cJ:List AV->AV
 |[v]=>v
 |l=> .aU l
def fin(g:AF)(bm:Bool)(m0:Mem):Option (Ex×St)->Option (AV×Mem)
 |some (.exit _,_)=>none
 |some (_,s)=>match cH s g.results with
  |some l=>if bm then some (exp s.mem.ε.length true (cJ l),{ε:=s.mem.ε,ζ:=m0.ζ++s.mem.ζ})
    else some (aK s.mem.ε m0.ε.length 8 (cJ l),m0.back s.mem)
  |none=>none
 |none=>none
def wb:List AV->List Nat->List AV->List AV
 |env,[],_=>env
 |env,_,[]=>env
 |env,p::ps,v::vs=>wb (mN env p v) ps vs
def Mem.kV(m:Mem)(l:Nat)(st:LS):Mem:=
 match m.ε[l]? with
 |some (.loop env ps fO body _)=> {m with ε:=m.ε.set l (.loop env ps fO body st)}
 |_=>m
def Mem.ls(m:Mem)(l:Nat):Option LS:=
 match m.ε[l]? with
 |some (.loop _ _ _ _ st)=>some st
 |_=>none
def round(ex:AC->St->Option (Ex×St))(l:Nat)(args:List AV)(mem:Mem):Option (AV×Mem):=
 match mem.ε[l]? with
 |some (.loop env ps fO body _)=>
  if ps.length=args.length then
   match ex fO {env:=wb env ps (args.map (exp mem.ε.length false)),loc:=[],mem:=mem}with
   |some (.normal,s1)=>
    if s1.mem.ls l=some .ready then
     match ex body {s1 with mem:=s1.mem.kV l .busy}with
     |some (.normal,s2)=>if s2.mem.ls l=some .busy then some (.bool true,s2.mem.kV l .ready)else none
     |some (.ret,s2)=>if s2.mem.ls l=some .busy then some (.bool false,s2.mem.kV l (.done none))else none
     |some (.exit i,s2)=>if s2.mem.ls l=some .busy then some (.bool false,s2.mem.kV l (.done (some i)))else none
     |none=>none
    else none
   |_=>none
  else none
 |_=>none
def body(C:iK)(ax:cu)(lp:pq):cu:=fun fv args mem=>
 match fv with
 | .fn (.func f) first cap=>
  match C.iX f with
  |some p=>p ((first++args++cap).map (exp mem.ε.length (C.bm f))) mem
  |none=>match C.fs f with
   |some g=>fin g (C.bm f) mem (exec C.gl ax lp g.code
     {env:=(first++args++cap).map (exp mem.ε.length (C.bm f)),loc:=[],mem:= {ε:=mem.ε,ζ:=[]}})
   |none=>none
 | .fn (.methodOf f _) first cap=>
  match C.alts f with
  |some g=>fin g true mem (exec C.gl ax lp g.code
    {env:=(first++args++cap).map (exp mem.ε.length true),loc:=[],mem:= {ε:=mem.ε,ζ:=[]}})
  |none=>none
 | .fn (.yield l) [] []=>round (exec C.gl ax lp) l args mem
 |_=>none
def cv(C:iK):Nat->cu
 |0=>fun _ _ _=>none
 |n+1=>body C (cv C n) (fN n)
def cu.le(c c':cu):Prop:=∀fv args mem r,c fv args mem=some r->c' fv args mem=some r
def pq.le(l l':pq):Prop:=∀b b':St->Option (Ex×St),(∀s r,b s=some r->b' s=some r)->∀s r,l b s=some r->l' b' s=some r
theorem YT{ev lk mem dst o r}{c c':cu}(h:c.le c')(hr:aH ev lk mem c dst o=some r):aH ev lk mem c' dst o=some r:=by
 cases o<;>try exact hr
 case call f args=>
  simp only[aH,bE]at hr⊢
  obtain⟨x,hx,rfl⟩:=hr;exact⟨x,h _ _ _ _ hx,rfl⟩
 case callz f args=>
  simp only[aH]at hr⊢
  split at hr
  ·rename_i v m he;rw[h _ _ _ _ he];exact hr
  ·cases hr
theorem Ff{gl o s r}{c c':cu}(h:c.le c')(hr:dG gl c o s=some r):dG gl c' o s=some r:=by
 unfold dG at hr⊢;split at hr
 ·cases hr
 ·split at hr
  ·rename_i he;rw[YT h he];exact hr
  ·cases hr
 ·exact hr
theorem Qr{gl l s r}{c c':cu}(h:c.le c')(hr:dT gl c l s=some r):dT gl c' l s=some r:=by
 induction l generalizing s with
 |nil=>exact hr
 |cons o l ih=>
  simp only[dT]at hr⊢
  split at hr
  ·rename_i he;rw[Ff h he];exact ih hr
  ·cases hr
theorem Qz{gl l s r}{c c':cu}(h:c.le c')(hr:ef gl c l s=some r):ef gl c' l s=some r:=by
 induction l generalizing s r with
 |nil=>exact hr
 |cons o l ih=>
  simp only[ef]at hr⊢
  split at hr
  ·rename_i he;rw[Ff h he];simp only[bE]at hr⊢;obtain⟨x,hx,rfl⟩:=hr;exact⟨x,ih hx,rfl⟩
  ·cases hr
theorem YJ{gl l cf af s r}{c c':cu}(h:c.le c')(hr:eU gl c l cf af s=some r):eU gl c' l cf af s=some r:=by
 unfold eU at hr⊢;split at hr
 ·rename_i he;rw[Qz h he];exact hr
 ·cases hr
theorem FV{gl}{c c':cu}{l l':pq}(h:c.le c')(hl:l.le l')(a:AC):∀s r,exec gl c l a s=some r->exec gl c' l' a s=some r:=by
 induction a with
 |skip=>intro s r hr;exact hr
 |ops x=>
  intro s r hr
  simp only[exec,bE]at hr⊢;obtain⟨x,hx,rfl⟩:=hr;exact⟨x,Qr h hx,rfl⟩
 |draw x cf af=>
  intro s r hr
  simp only[exec,bE]at hr⊢;obtain⟨x,hx,rfl⟩:=hr;exact⟨x,YJ h hx,rfl⟩
 |seq a b dK gu=>
  intro s r hr
  simp only[exec]at hr⊢;split at hr
  ·rename_i he;rw[dK _ _ he];exact gu _ _ hr
  ·rename_i τ;rw[dK _ _ hr];split
   ·rename_i he;rw[he]at hr;exact absurd hr (τ _)
   ·rfl
 |cond x a b dK gu=>
  intro s r hr
  simp only[exec]at hr⊢;split at hr
  ·split at hr
   ·rename_i he ht;simp only[ht,if_true];exact dK _ _ hr
   ·rename_i he ht;simp only[ht];exact gu _ _ hr
  ·cases hr
 |block id a dK=>
  intro s r hr
  simp only[exec]at hr⊢;split at hr
  ·rename_i he;rw[dK _ _ he];exact hr
  ·rename_i τ;rw[dK _ _ hr];split
   ·rename_i he;rw[he]at hr;exact absurd hr (τ _ _)
   ·rfl
 |loop a dK=>
  intro s r hr
  simp only[exec]at hr⊢;exact hl _ _ dK _ _ hr
 |exit id=>intro s r hr;exact hr
 |ret=>intro s r hr;exact hr
 |BC f ps fO body _ _=>
  intro s r hr
  simp only[exec]at hr⊢;split at hr
  ·rename_i he;obtain⟨fv,h1,h2⟩:=Option.bind_eq_some_iff.1 he;rw[h1];simp only[Option.bind_some,h _ _ _ _ h2];exact hr
  ·cases hr
 |Ek ds=>intro s r hr;exact hr
 |bad=>intro s r hr;exact hr
theorem Fc(n n':Nat)(h:n<=n'):pq.le (fN n) (fN n'):=by
 intro b b' hb s r hr;induction n generalizing n' s with
 |zero=>simp[fN]at hr
 |succ n ih=>
  obtain⟨m,rfl⟩:∃m,n'=m+1:=⟨n'-1,by omega⟩
  simp only[fN]at hr⊢;split at hr
  ·rename_i he;rw[hb _ _ he];exact ih m (by omega) _ hr
  ·rename_i τ;rw[hb _ _ hr];split
   ·rename_i he;rw[he]at hr;exact absurd hr (τ _)
   ·rfl
theorem aiP{e e':AC->St->Option (Ex×St)}(h:∀a s r,e a s=some r->e' a s=some r){l args mem r}(hr:round e l args mem=some r):round e' l args mem=some r:=by
 unfold round at hr⊢;split at hr
 ·split at hr
  ·rename_i hlen;simp only[hlen,if_true];split at hr
   ·rename_i he;rw[h _ _ _ he];dsimp only at hr⊢;split at hr
    ·rename_i nZ;simp only[nZ,if_true];split at hr
     ·rename_i l7;simp only[h _ _ _ l7];exact hr
     ·rename_i l7;simp only[h _ _ _ l7];exact hr
     ·rename_i l7;simp only[h _ _ _ l7];exact hr
     ·cases hr
    ·cases hr
   ·cases hr
  ·cases hr
 ·cases hr
theorem Zt{C:iK}{c c':cu}{l l':pq}(h:c.le c')(hl:l.le l'):(body C c l).le (body C c' l'):=by
 intro fv args mem r hr;unfold body at hr⊢;split at hr
 ·split at hr
  ·exact hr
  ·split at hr
   ·rename_i hg;generalize he:exec C.gl c l _ _=x at hr;cases x with
    |none=>simp[fin]at hr
    |some x=>simp only[FV h hl _ _ _ he];exact hr
   ·cases hr
 ·split at hr
  ·rename_i hg;generalize he:exec C.gl c l _ _=x at hr;cases x with
   |none=>simp[fin]at hr
   |some x=>simp only[FV h hl _ _ _ he];exact hr
  ·cases hr
 ·exact aiP (fun a s r=>FV h hl a s r) hr
 ·cases hr
theorem aam(C:iK)(n:Nat):(cv C n).le (cv C (n+1)):=by
 induction n with
 |zero=>intro fv args mem r hr;simp[cv]at hr
 |succ n ih=>exact Zt ih (Fc _ _ (by omega))
theorem yt(C:iK){n n':Nat}(h:n<=n'):(cv C n).le (cv C n'):=by
 induction h with
 |refl=>exact fun _ _ _ _ h=>h
 |step _ ih=>exact fun _ _ _ _ h=>aam C _ _ _ _ _ (ih _ _ _ _ h)
structure Gh where
 im:Nat->Nat->Option Value
 mb:Nat->Option Nat
 rows:Nat->Nat->Option (Nat×Nat)
abbrev LB:=Nat->Nat->Option Nat
def Gh.sub(g g':Gh):Prop:=
 (∀b o x,g.im b o=some x->g'.im b o=some x)/\(∀id b,g.mb id=some b->g'.mb id=some b)/\(∀t n x,g.rows t n=some x->g'.rows t n=some x)
def Gh.cut(g:Gh)(n:Nat):Gh:=
 {im:=g.im,mb:=fun id=>if id<n then g.mb id else none,rows:=fun t m=>if t<n then g.rows t m else none}
def mV(g:Gh)(n b o cap:Nat):ξ->Prop
 | .any=>True
 | .full=>cap=n
 | .nil=>False
 | .own t=>o=0/\g.rows t n=some (b,cap)
def bV:LB:=fun _ _=>none
def su(mb:Nat->Option Nat):Fn->Fn->Prop
 | .func f,.func f'=>f'=f
 | .methodOf f _,.func f'=>f'=f
 | .yield i,.yield b=>mb i=some b
 |_,_=>False
theorem su.mono{mb mL:Nat->Option Nat}(hm:∀i b,mb i=some b->mL i=some b){f f':Fn}(h:su mb f f'):su mL f f':=by cases f<;>cases f'<;>first|exact h|exact hm _ _ h|exact h.elim
inductive VR (g:Gh):LB->AV->Value->Prop
 |undef (lb:LB):VR g lb .undef (.tuple #[])
 |cU (lb:LB) (x:Value) (h:x.oneCell'=true):VR g lb .cU x
 |int (lb:LB) (k:IntKind) (n:Int):VR g lb (.int k n) (.int k n)
 |bool (lb:LB) (b:Bool):VR g lb (.bool b) (.bool b)
 |str (lb:LB) (b:ByteArray) (s:List Nat) (h:b.data.toList.map UInt8.toNat=s):VR g lb (.str s) (.string b)
 |iU (lb:LB):VR g lb .iU (.pointer none)
 |aj (lb:LB) (d v off b:Nat) (h:lb d v=some b):VR g lb (.aj d v off) (.pointer (some ⟨b,off,none⟩))
 |μ (lb:LB) (id off b:Nat) (h:g.mb id=some b):VR g lb (.μ id off) (.pointer (some ⟨b,off,none⟩))
 |ref (lb:LB) (l:List AV) (b o:Nat) (xs:Nat->Value) (cC:∀i,i<l.length->g.im b (o+i)=some (xs i)/\(xs i).oneCell'=true)
   (hv:∀i (h:i<l.length),VR g bV l[i] (xs i)):VR g lb (.ref l) (.pointer (some ⟨b,o,none⟩))
 |iS (lb:LB):VR g lb (.list .nil []) (.slice none 0 0)
 |iw (lb:LB) (c:ξ) (a:Addr) (cap:Nat) (hc:c= .any\/(c= .full/\cap=0)):VR g lb (.list c []) (.slice (some a) 0 cap)
 |sl (lb:LB) (kd id off n cap gq b:Nat) (hc:n<=cap) (eD:cap<=gq) (h:g.mb id=some b):VR g lb (.sl kd id off n cap) (.slice (some ⟨b,off,none⟩) n gq)
 |list (lb:LB) (c:ξ) (l:List AV) (b o sz n cap:Nat) (xs:Nat->Nat->Value) (hn:l.length=n) (dP:n<=cap) (hc:mV g n b o cap c)
   (aJ:∀e∈l,e.cells.length=sz)
   (cC:∀i,i<n->∀j,j<sz->g.im b (o+(i*sz+j))=some (xs i j)/\(xs i j).oneCell'=true)
   (hv:∀i (h:i<l.length) j (hj:j<l[i].cells.length),VR g bV l[i].cells[j] (xs i j)):VR g lb (.list c l) (.slice (some ⟨b,o,none⟩) n cap)
 |agg (lb:LB) (l:List AV) (a:Array Value) (hs:a.size=l.length) (h1:∀i (h:i<a.size),a[i].oneCell'=true)
   (hv:∀i (h:i<l.length) (h':i<a.size),VR g lb l[i] a[i]):VR g lb (.agg l) (.agg a)
 |aU (lb:LB) (l:List AV) (a:Array Value) (hs:a.size=l.length)
   (hv:∀i (h:i<l.length) (h':i<a.size),VR g lb l[i] a[i]):VR g lb (.aU l) (.tuple a)
 |fn (lb:LB) (f f':Fn) (l m:List AV) (a b:Array Value) (hs:a.size=l.length) (ht:b.size=m.length)
   (hy:su g.mb f f')
   (hv:∀i (h:i<l.length) (h':i<a.size),VR g lb l[i] a[i]) (hw:∀i (h:i<m.length) (h':i<b.size),VR g lb m[i] b[i]):
   VR g lb (.fn f l m) (.func f' a b)
 |fV (lb:LB):VR g lb .fV .nilFunc
 |iface (lb:LB) (t:TypeId) (v:AV) (x:Value) (h:VR g lb v x):VR g lb (.iface t v) (.iface t x)
 |gx (lb:LB):VR g lb .gx .nilIface
 |map (lb:LB) (id b:Nat) (h:g.mb id=some b):VR g lb (.map id) (.map (some b))
 |gY (lb:LB):VR g lb .gY (.map none)
theorem RY{g g':Gh}{n b o cap:Nat}{c:ξ}(hg:g.sub g')(h:mV g n b o cap c):mV g' n b o cap c:=by
 cases c with
 |any=>trivial
 |full=>exact h
 |nil=>exact h
 |own t=>exact⟨h.1,hg.2.2 _ _ _ h.2⟩
theorem VR.mono{g g':Gh}{lb lb':LB}{v:AV}{x:Value}(hg:g.sub g')(hl:∀d i b,lb d i=some b->lb' d i=some b)(h:VR g lb v x):VR g' lb' v x:=by
 induction h generalizing lb' with
 |undef=>exact .undef _
 |cU _ x h=>exact .cU _ x h
 |int _ k n=>exact .int _ k n
 |bool _ b=>exact .bool _ b
 |str _ b s h=>exact .str _ b s h
 |iU=>exact .iU _
 |aj _ d v off b h=>exact .aj _ d v off b (hl _ _ _ h)
 |μ _ id off b h=>exact .μ _ id off b (hg.2.1 _ _ h)
 |ref _ l b o xs cC _ ih=>exact .ref _ l b o xs (fun i hi=>⟨hg.1 _ _ _ (cC i hi).1,(cC i hi).2⟩) fun i hi=>ih i hi fun _ _ _ h=>h
 |iS=>exact .iS _
 |iw _ c a cap hc=>exact .iw _ c a cap hc
 |sl _ kd id off n cap gq b hc eD h=>exact .sl _ kd id off n cap gq b hc eD (hg.2.1 _ _ h)
 |list _ c l b o sz n cap xs hn dP hc aJ cC _ ih=>exact .list _ c l b o sz n cap xs hn dP (RY hg hc) aJ (fun i hi j hj=>⟨hg.1 _ _ _ (cC i hi j hj).1,(cC i hi j hj).2⟩) fun i hi j hj=>ih i hi j hj fun _ _ _ h=>h
 |agg _ l a hs h1 _ ih=>exact .agg _ l a hs h1 fun i hi ab=>ih i hi ab hl
 |aU _ l a hs _ ih=>exact .aU _ l a hs fun i hi ab=>ih i hi ab hl
 |fn _ f f' l m a b hs ht hy _ _ qI oV=>exact .fn _ f f' l m a b hs ht (hy.mono hg.2.1) (fun i hi ab=>qI i hi ab hl) (fun i hi ab=>oV i hi ab hl)
 |fV=>exact .fV _
 |iface _ t v x _ ih=>exact .iface _ t v x (ih hl)
 |gx=>exact .gx _
 |map _ id b h=>exact .map _ id b (hg.2.1 _ _ h)
 |gY=>exact .gY _
theorem Gh.eP(g:Gh):g.sub g:=⟨fun _ _ _ h=>h,fun _ _ h=>h,fun _ _ _ h=>h⟩
theorem Gh.BL{a b c:Gh}(h:a.sub b)(k:b.sub c):a.sub c:=
 ⟨fun _ _ _ x=>k.1 _ _ _ (h.1 _ _ _ x),fun _ _ x=>k.2.1 _ _ (h.2.1 _ _ x),fun _ _ _ x=>k.2.2 _ _ _ (h.2.2 _ _ _ x)⟩
theorem VR.sub{g g':Gh}{lb:LB}{v:AV}{x:Value}(hg:g.sub g')(h:VR g lb v x):VR g' lb v x:=h.mono hg fun _ _ _ h=>h
theorem FC(n:Nat)(k:Bool)(v:AV):(exp n k v).cells=v.cells.map (exp n k):=by
 cases v with
 |μ id off=>simp only[exp,AV.cells,aA,aP];by_cases h:id<n<;>simp[h]
 |fn f a b=>simp only[exp,AV.cells,aA,aP];by_cases h:Fn.below n f=true<;>simp[h]
 |map id=>simp only[exp,AV.cells,aA,aP];by_cases h:id<n<;>simp[h]
 |sl kd id off m cap=>simp only[exp,AV.cells,aA,aP];by_cases h:id<n<;>simp[h]
 |_=>simp[exp,AV.cells,fQ]
theorem RX{g:Gh}{n b o cap m:Nat}{k:Bool}{c:ξ}(h:mV g n b o cap c):mV (g.cut m) n b o cap (c.exp m k):=by
 cases c with
 |any=>trivial
 |nil=>exact h
 |full=>
  simp only[ξ.exp]
  split
  ·exact h
  ·trivial
 |own t=>
  simp only[ξ.exp]
  split
  ·rename_i hk;simp only[dW,decide_eq_true_eq]at hk;exact⟨h.1,by simp only[Gh.cut,hk.2,if_true];exact h.2⟩
  ·trivial
theorem VR.exp{g:Gh}{lb lb':LB}{v:AV}{x:Value}(m:Nat)(k:Bool)(h:VR g lb v x):VR (g.cut m) lb' (exp m k v) x:=by
 induction h generalizing lb' with
 |undef=>exact .undef _
 |cU _ x h=>exact .cU _ x h
 |int _ k n=>exact .int _ k n
 |bool _ b=>exact .bool _ b
 |str _ b s h=>exact .str _ b s h
 |iU=>exact .iU _
 |aj _ d v off b h=>exact .cU _ _ rfl
 |μ _ id off b h=>
  simp only[Δ.exp]
  split
  ·rename_i hi;exact .μ _ id off b (by simp only[Gh.cut,hi,if_true];exact h)
  ·exact .cU _ _ rfl
 |ref _ l b o xs cC _ ih=>
  simp only[Δ.exp,fQ]
  refine .ref _ _ b o xs (fun i hi=>cC i (by simpa using hi)) (fun i hi=>?_);simp only[iY];exact ih i (by simpa using hi)
 |iS=>
  simp only[Δ.exp,fQ,aP,ξ.exp]
  exact .iS _
 |iw _ c a cap hc=>
  simp only[Δ.exp,fQ,aP]
  refine .iw _ _ a cap ?_;rcases hc with rfl|⟨rfl,h⟩
  ·exact .inl rfl
  ·simp only[ξ.exp];split
   ·exact .inr ⟨rfl,h⟩
   ·exact .inl rfl
 |sl _ kd id off n cap gq b hc eD h=>
  simp only[Δ.exp]
  split
  ·rename_i hi;exact .sl _ kd id off n cap gq b hc eD (by simp only[Gh.cut,hi,if_true];exact h)
  ·exact .cU _ _ rfl
 |list _ c l b o sz n cap xs hn dP hc aJ cC _ ih=>
  simp only[Δ.exp,fQ]
  refine .list _ _ _ b o sz n cap xs (by simpa using hn) dP (RX hc) ?_ cC ?_
  ·intro e he;obtain⟨e',qs,rfl⟩:=eT.1 he;rw[FC,cF];exact aJ e' qs
  ·intro i hi j hj;have ab:i<l.length:=by simpa using hi
   have dJ:j<l[i].cells.length:=by simpa[FC]using hj
   have:=ih i ab j dJ (lb':=bV);simpa[FC]using this
 |agg _ l a hs h1 _ ih=>
  simp only[Δ.exp,fQ]
  refine .agg _ _ a (by simpa using hs) h1 fun i hi ab=>?_;simp only[iY];exact ih i (by simpa using hi) ab
 |aU _ l a hs _ ih=>
  simp only[Δ.exp,fQ]
  refine .aU _ _ a (by simpa using hs) fun i hi ab=>?_;simp only[iY];exact ih i (by simpa using hi) ab
 |fn _ f f' l m' a b hs ht hy _ _ qI oV=>
  simp only[Δ.exp,fQ]
  split
  ·rename_i hf;refine .fn _ f f' _ _ a b (by simpa using hs) (by simpa using ht) ?_ (fun i hi ab=>?_) (fun i hi ab=>?_)
   ·cases f<;>cases f'<;>first|exact hy|exact hy.elim|skip
    simp only[Fn.below,decide_eq_true_eq]at hf;simp only[su,Gh.cut,hf,if_true];exact hy
   ·simp only[iY];exact qI i (by simpa using hi) ab
   ·simp only[iY];exact oV i (by simpa using hi) ab
  ·exact .cU _ _ rfl
 |fV=>exact .fV _
 |iface _ t v x _ ih=>exact .iface _ t _ x ih
 |gx=>exact .gx _
 |map _ id b h=>
  simp only[Δ.exp]
  split
  ·rename_i hi;exact .map _ id b (by simp only[Gh.cut,hi,if_true];exact h)
  ·exact .cU _ _ rfl
 |gY=>exact .gY _
theorem FD(v:AV):(ν v).cells=v.cells.map ν:=by cases v<;>simp[ν,AV.cells,fM]
theorem VR.ν{g:Gh}{lb lb':LB}{v:AV}{x:Value}(h:VR g lb v x):VR g lb' (ν v) x:=by
 induction h generalizing lb' with
 |undef=>exact .undef _
 |cU _ x h=>exact .cU _ x h
 |int _ k n=>exact .int _ k n
 |bool _ b=>exact .bool _ b
 |str _ b s h=>exact .str _ b s h
 |iU=>exact .iU _
 |aj _ d v off b h=>exact .cU _ _ rfl
 |μ _ id off b h=>exact .μ _ id off b h
 |ref _ l b o xs cC _ ih=>
  simp only[Δ.ν,fM]
  refine .ref _ _ b o xs (fun i hi=>cC i (by simpa using hi)) (fun i hi=>?_);simp only[iY];exact ih i (by simpa using hi)
 |iS=>
  simp only[Δ.ν,fM,aP]
  exact .iS _
 |iw _ c a cap hc=>
  simp only[Δ.ν,fM,aP]
  exact .iw _ c a cap hc
 |sl _ kd id off n cap gq b hc eD h=>exact .sl _ kd id off n cap gq b hc eD h
 |list _ c l b o sz n cap xs hn dP hc aJ cC _ ih=>
  simp only[Δ.ν,fM]
  refine .list _ _ _ b o sz n cap xs (by simpa using hn) dP hc ?_ cC ?_
  ·intro e he;obtain⟨e',qs,rfl⟩:=eT.1 he;rw[FD,cF];exact aJ e' qs
  ·intro i hi j hj;have ab:i<l.length:=by simpa using hi
   have dJ:j<l[i].cells.length:=by simpa[FD]using hj
   have:=ih i ab j dJ (lb':=bV);simpa[FD]using this
 |agg _ l a hs h1 _ ih=>
  simp only[Δ.ν,fM]
  refine .agg _ _ a (by simpa using hs) h1 fun i hi ab=>?_;simp only[iY];exact ih i (by simpa using hi) ab
 |aU _ l a hs _ ih=>
  simp only[Δ.ν,fM]
  refine .aU _ _ a (by simpa using hs) fun i hi ab=>?_;simp only[iY];exact ih i (by simpa using hi) ab
 |fn _ f f' l m' a b hs ht hy _ _ qI oV=>
  simp only[Δ.ν,fM]
  refine .fn _ f f' _ _ a b (by simpa using hs) (by simpa using ht) hy (fun i hi ab=>?_) (fun i hi ab=>?_)
  ·simp only[iY];exact qI i (by simpa using hi) ab
  ·simp only[iY];exact oV i (by simpa using hi) ab
 |fV=>exact .fV _
 |iface _ t v x _ ih=>exact .iface _ t _ x ih
 |gx=>exact .gx _
 |map _ id b h=>exact .map _ id b h
 |gY=>exact .gY _
theorem VR.cells{g:Gh}{lb:LB}{v:AV}{x:Value}(h:VR g lb v x)(hn:v.cells≠[]):
  x.cells.size=v.cells.length/\(∀i (hi:i<v.cells.length) (ab:i<x.cells.size),VR g lb v.cells[i] x.cells[i])/\(∀i (ab:i<x.cells.size),x.cells[i].oneCell'=true):=by
 cases h with
 |undef=>exact absurd rfl hn
 |aU _ l a hs hv=>exact absurd rfl hn
 |agg _ l a hs h1 hv=>exact⟨hs,fun i hi ab=>hv i hi ab,h1⟩
 |cU _ x h=>
  have hx:x.cells= #[x]:=by cases x<;>simp_all [Value.cells,Value.oneCell']
  refine⟨by simp[hx,AV.cells],fun i hi ab=>?_,fun i ab=>?_⟩
  ·have:i=0:=by simpa[AV.cells]using hi
   subst this;simp only[hx,AV.cells];exact .cU _ x h
  ·have:i=0:=by simpa[hx]using ab
   subst this;simpa[hx]using h
 |_=>
  refine⟨by simp[Value.cells,AV.cells],fun i hi ab=>?_,fun i ab=>?_⟩
  ·have:i=0:=by simpa[AV.cells]using hi
   subst this;simp only[Value.cells,AV.cells,lE,List.getElem_toArray];constructor<;>assumption
  ·have:i=0:=by simpa[Value.cells]using ab
   subst this;simp[Value.cells,Value.oneCell']
open Go.RowKit (Below)
inductive Own
 |m (id:Nat)
 |l (d:Nat)
abbrev OW:=Nat->Option Own
abbrev eX:=Nat->AC->Code->Prop
def qX(g:Gh)(lb:LB)(own:OW)(w:World)(nm:Own)(b:Nat)(l:List AV):Prop:=
 own b=some nm/\(∀o,g.im b o=none)/\∃(a:Array Value) (e:TypeId),w.heap[b]?=some (.cells a e (0,0))/\l.length<=a.size∧
  (∀i (h:i<l.length) (h':i<a.size),VR g lb l[i] a[i])/\∀i (h':i<a.size),a[i].oneCell'=true
def Qa:LS->Loop->Prop
 | .ready,L=>L.state= .ready/\L.pending.isNone
 | .busy,L=>L.state= .busy
 | .done none,L=>L.state= .done/\(match L.pending with|some .ret=>True|_=>False)
 | .done (some i),L=>L.state= .done/\(match L.pending with|some (.exit j)=>j=i|_=>False)
def tF(g:Gh)(own:OW)(LC:eX)(w:World)(id:Nat):θ->Prop
 | .cells l=>∃b,g.mb id=some b/\qX g bV own w (.m id) b l
 | .iter _ _=>False
 | .dead=>True
 | .nH T e s=>∃b,g.mb id=some b/\own b=some (.m id)/\(∀o,g.im b o=none)/\∃(p v:Value),w.heap[b]?=some (.cells #[p,v] T (0,0))∧
   (p= .pointer none\/p= .pointer (some ⟨b,0,none⟩))/\(∀x∈s,x<256)∧
   ((v= .slice none 0 0/\s=[])\/∃(r cap:Nat) (cur:Array Value),v= .slice (some ⟨r,0,none⟩) s.length cap/\own r=some (.m id)/\r≠b/\(∀o,g.im r o=none)/\s≠[]∧
    w.heap[r]?=some (.cells cur e (0,0))/\cur.size=cap/\s.length<=cap/\cap<=maxLen/\∀i (h:i<s.length),cur[i]?=some (.int .u8 s[i]))
 | .map es=>∃b,g.mb id=some b/\own b=some (.m id)/\(∀o,g.im b o=none)/\∃(a:Array MapEntry) (clock:Nat),w.heap[b]?=some (.map a clock)/\a.size=es.length∧
   (∀i (h:i<es.length) (h':i<a.size),VR g bV es[i].1 a[i].key/\VR g bV es[i].2 a[i].val)/\∀p∈es,plain p.1=true/\plain p.2=true
 | .front n sz e=>0<sz/\∃b cap,g.rows id n=some (b,cap)/\n<=cap/\own b=some (.m id)/\(∃a:Array Value,w.heap[b]?=some (.cells a e (0,0))/\a.size=cap*sz)∧
   (∀o,n*sz<=o->g.im b o=none)/\(∀m x,g.rows id m=some x->m<=n)/\g.mb id=none
 | .loop env ps fO body st=>∃b,g.mb id=some b/\own b=some (.m id)/\(∀o,g.im b o=none)/\∃(L:Loop) (N:Nat),w.heap[b]?=some (.loop L)∧
   (∀t,VR g bV (aI env t) (L.tmps.getD t undef))/\L.params=ps.toArray/\N<=L.tmps.size/\(∀p∈ps,p<N)/\LC N fO L.assign/\LC N body L.body/\Qa st L∧
   ∀t,∃(g0:Gh) (x0:Value),(∀i b,g0.mb i=some b->i<id)/\(∀i m y,g0.rows i m=some y->i<id)/\VR g0 bV (aI env t) x0
structure a_ (g:Gh) (own:OW) (LC:eX) (mem:Mem) (w:World):Prop where
 ju:∀id b,g.mb id=some b->id<mem.ε.length
 nu:∀t n x,g.rows t n=some x->t<mem.ε.length
 blk:∀id blk,mem.ε[id]?=some blk->tF g own LC w id blk
 im:∀b o x,g.im b o=some x->w.cell? ⟨b,o,none⟩=some x
structure cx (g:Gh) (lb:LB) (own:OW) (loc:Nat->Option (Nat×θ)) (w:World):Prop where
 cells:∀d v l,loc d=some (v,.cells l)->∃b,lb d v=some b/\qX g lb own w (.l d) b l
 iter:∀d v s pos,loc d=some (v,.iter s pos)->∃b,lb d v=some b/\own b=some (.l d)/\(∀o,g.im b o=none)∧
   ∃bs:ByteArray,w.heap[b]?=some (.stringIter bs pos)/\bs.data.toList.map UInt8.toNat=s
 wm:∀d v b,lb d v=some b->∃v' blk,loc d=some (v',blk)/\v<=v'
structure bT (base:Nat) (own:OW) (w:World):Prop where
 ge:∀b o,own b=some o->base<=b/\b<w.heap.size
 base:base<=w.heap.size
structure eu (g:Gh) (own:OW) (w:World) (g':Gh) (aE:OW) (w':World):Prop where
 sub:g.sub g'
 size:w.heap.size<=w'.heap.size
 os:w'.os=w.os
 tape:w'.tape=w.tape
 output:w'.output=w.output
 bm:∀b,b<w.heap.size->own b=none->w'.heap[b]?=w.heap[b]?
 jH:∀b,b<w.heap.size->own b=none->aE b=none
 im:∀b,b<w.heap.size->own b=none->∀o,g'.im b o=g.im b o
theorem eu.refl(g:Gh)(own:OW)(w:World):eu g own w g own w:=
 ⟨g.eP,bA _,rfl,rfl,rfl,fun _ _ _=>rfl,fun _ _ h=>h,fun _ _ _ _=>rfl⟩
theorem eu.trans{g1 g2 g3:Gh}{o1 o2 o3:OW}{w1 w2 w3:World}(h:eu g1 o1 w1 g2 o2 w2)(k:eu g2 o2 w2 g3 o3 w3):eu g1 o1 w1 g3 o3 w3:= {
 sub:=Gh.BL h.sub k.sub
 size:=Nat.le_trans h.size k.size
 os:=k.os.trans h.os
 tape:=k.tape.trans h.tape
 output:=k.output.trans h.output
 bm b hb ho:=(k.bm b (kj hb h.size) (h.jH b hb ho)).trans (h.bm b hb ho)
 jH b hb ho:=k.jH b (kj hb h.size) (h.jH b hb ho)
 im b hb ho o:=(k.im b (kj hb h.size) (h.jH b hb ho) o).trans (h.im b hb ho o)}
theorem eu.below{base:Nat}{g g':Gh}{own aE:OW}{w w':World}(h:eu g own w g' aE w')(ho:bT base own w):Below base w w':=
 ⟨h.os,h.tape,h.output,h.size,fun k hk=>h.bm k (kj hk ho.base) (by
  cases hx:own k with
  |none=>rfl
  |some o=>have:=(ho.ge k o hx).1;omega)⟩
theorem qj{w w':World}{b o:Nat}(h:w'.heap[b]?=w.heap[b]?):w'.cell? ⟨b,o,none⟩=w.cell? ⟨b,o,none⟩:=by simp[sx,h]
theorem qX.bm{g g':Gh}{lb lb':LB}{own aE:OW}{w w':World}{nm:Own}{b:Nat}{l:List AV}(h:qX g lb own w nm b l)
  (hg:g.sub g') (hl:∀d i b,lb d i=some b->lb' d i=some b) (ho:aE b=own b) (hw:w'.heap[b]?=w.heap[b]?) (hi:∀o,g'.im b o=g.im b o):qX g' lb' aE w' nm b l:=by
 obtain⟨h1,h2,a,e,h3,h4,h5,h6⟩:=h;exact⟨ho.trans h1,fun o=>(hi o).trans (h2 o),a,e,hw.trans h3,h4,fun i hi ab=>(h5 i hi ab).mono hg hl,h6⟩
theorem tF.bm{g g':Gh}{own aE:OW}{LC:eX}{w w':World}{id:Nat}{blk:θ}(h:tF g own LC w id blk)(hg:g.sub g')
  (hb:∀b,own b=some (.m id)->aE b=own b/\w'.heap[b]?=w.heap[b]?/\∀o,g'.im b o=g.im b o)
  (hr:∀n,g.rows id n=none->g'.rows id n=none) (hm:g.mb id=none->g'.mb id=none):tF g' aE LC w' id blk:=by
 cases blk with
 |cells l=>
  obtain⟨b,h1,h2⟩:=h
  obtain⟨k1,k2,k3⟩:=hb b h2.1;exact⟨b,hg.2.1 _ _ h1,h2.bm hg (fun _ _ _ h=>h) k1 k2 k3⟩
 |iter s pos=>exact h
 |dead=>trivial
 |nH T e s=>
  obtain⟨b,h1,h2,h3,p,v,h4,h5,h6,h7⟩:=h
  obtain⟨k1,k2,k3⟩:=hb b h2;refine⟨b,hg.2.1 _ _ h1,k1.trans h2,fun o=>(k3 o).trans (h3 o),p,v,k2.trans h4,h5,h6,?_⟩;rcases h7 with h7|⟨r,cap,cur,q1,q2,q3,q4,q5,q6,q7⟩
  ·exact .inl h7
  ·obtain⟨l1,l2,l3⟩:=hb r q2;exact .inr ⟨r,cap,cur,q1,l1.trans q2,q3,fun o=>(l3 o).trans (q4 o),q5,l2.trans q6,q7⟩
 |map es=>
  obtain⟨b,h1,h2,h3,a,c,h4,h5,h6,h7⟩:=h
  obtain⟨k1,k2,k3⟩:=hb b h2;exact⟨b,hg.2.1 _ _ h1,k1.trans h2,fun o=>(k3 o).trans (h3 o),a,c,k2.trans h4,h5,fun i hi ab=>⟨(h6 i hi ab).1.sub hg,(h6 i hi ab).2.sub hg⟩,h7⟩
 |front n sz e=>
  obtain⟨h0,b,cap,h1,h2,h3,⟨a,h4,h5⟩,h6,h7,h8⟩:=h
  obtain⟨k1,k2,k3⟩:=hb b h3;refine⟨h0,b,cap,hg.2.2 _ _ _ h1,h2,k1.trans h3,⟨a,k2.trans h4,h5⟩,fun o ho=>(k3 o).trans (h6 o ho),fun m x hx=>?_,hm h8⟩;cases hy:g.rows id m with
  |none=>rw[hr m hy]at hx;cases hx
  |some y=>exact h7 m y hy
 |loop env ps fO body st=>
  obtain⟨b,h1,h2,h3,L,N,h4,h5,h6⟩:=h
  obtain⟨k1,k2,k3⟩:=hb b h2;exact⟨b,hg.2.1 _ _ h1,k1.trans h2,fun o=>(k3 o).trans (h3 o),L,N,k2.trans h4,fun t=>(h5 t).sub hg,h6⟩
theorem Xn{g:Gh}{lb:LB}{own:OW}{LC:eX}{loc:Nat->Option (Nat×θ)}{mem:Mem}{w:World}(hm:a_ g own LC mem w)(hl:cx g lb own loc w)
  {p:AV} {x:Value} {n:Nat} {cs:List AV} (hp:VR g lb p x) (hr:rd loc mem p n=some cs):
  ∃(b o:Nat) (vs:List Value),x= .pointer (some ⟨b,o,none⟩)/\vs.length=n/\cs.length=n/\w.rangeAt b o vs∧
   (∀i (h:i<cs.length) (h':i<vs.length),VR g lb cs[i] vs[i])/\∀v∈vs,v.oneCell'=true:=by
 have key:∀(b off:Nat) (l:List AV) (lb':LB) (nm:Own),qX g lb' own w nm b l->(∀d i b,lb' d i=some b->lb d i=some b)->off+n<=l.length->cs=(l.drop off).take n→
   ∃vs:List Value,vs.length=n/\cs.length=n/\w.rangeAt b off vs/\(∀i (h:i<cs.length) (h':i<vs.length),VR g lb cs[i] vs[i])/\∀v∈vs,v.oneCell'=true:=by
  rintro b off l lb' nm ⟨_,_,a,e,h3,h4,h5,h6⟩ nX hle rfl
  refine⟨(a.toList.drop off).take n,by simp;omega,by simp;omega,?_,?_,?_⟩
  ·intro j v hv;rw[Aa]at hv;split at hv
   ·rw[ak9]at hv;simpa[sx,h3]using hv
   ·cases hv
  ·intro i h h';simp only[BX,xZ,ml];have hi:i<n:=by simp at h;omega
   exact(h5 (off+i) (by omega) (by omega)).mono g.eP nX
  ·intro v hv;have:=tM (pn hv);obtain⟨i,hi,rfl⟩:=pj.1 this;simpa using h6 i (by simpa using hi)
 cases p with
 |aj d v off=>
  cases hp with
  |aj _ _ _ _ b hb=>
  simp only[rd]at hr
  split at hr
  ·rename_i v' l hd;split at hr
   ·rename_i hc;obtain⟨rfl,hle⟩:=hc;obtain⟨b',aT,oJ⟩:=hl.cells d _ l hd;rw[hb]at aT;cases aT;obtain⟨vs,k⟩:=key b off l lb (.l d) oJ (fun _ _ _ h=>h) hle (by simpa using hr.symm);exact⟨b,off,vs,rfl,k⟩
   ·cases hr
  ·cases hr
 |μ id off=>
  cases hp with
  |μ _ _ _ b hb=>
  simp only[rd]at hr
  split at hr
  ·rename_i l hd;split at hr
   ·rename_i hle;obtain⟨b',aT,oJ⟩:=hm.blk id _ hd;rw[hb]at aT;cases aT;obtain⟨vs,k⟩:=key b off l bV (.m id) oJ (fun _ _ _ h=>by cases h) hle (by simpa using hr.symm);exact⟨b,off,vs,rfl,k⟩
   ·cases hr
  ·cases hr
 |ref l=>
  cases hp with
  |ref _ _ b o xs cC hv=>
  simp only[rd]at hr
  split at hr
  ·rename_i hle;simp only[bc]at hr;subst hr;refine⟨b,o,(qZ n).map xs,rfl,by simp,by simp;omega,?_,?_,?_⟩
   ·intro j v nj;simp only[nD,bE]at nj;obtain⟨i,hi,rfl⟩:=nj;have hj:j<n:=by
     rcases cX j n with h|h
     ·exact h
     ·rw[hU (by simpa using h)]at hi;cases hi
    rw[ak_ hj]at hi;cases hi;exact hm.im _ _ _ (cC j (by omega)).1
   ·intro i h h';simp only[BX,iY,J4];exact(hv i (by simp at h;omega)).mono g.eP fun _ _ _ h=>by cases h
   ·intro v nj;obtain⟨i,hi,rfl⟩:=eT.1 nj;exact(cC i (by have:=Ad.1 hi;omega)).2
  ·cases hr
 |_=>simp[rd]at hr
def ny(loc:Nat->Option (Nat×θ)):kG->Nat->Option (Nat×θ)
 |none=>loc
 |some (d,v,b)=>fun d'=>if d=d' then some (v,b)else loc d'
theorem OK(loc:Loc)(u:kG):bQ (eH loc u)=ny (bQ loc) u:=by
 funext d';cases u with
 |none=>rfl
 |some x=>obtain⟨d,v,b⟩:=x;simp[eH,ny,gX]
def h_(base:Nat)(LC:eX)(g:Gh)(lb:LB)(own:OW)(loc:Nat->Option (Nat×θ))(w:World)(v:AV)(u:kG)(m':Mem)(x:Value)(w':World):Prop:=
 ∃(g':Gh) (lb':LB) (aE:OW),eu g own w g' aE w'/\(∀d i b,lb d i=some b->lb' d i=some b)/\VR g' lb' v x/\a_ g' aE LC m' w'∧
  cx g' lb' aE (ny loc u) w'/\bT base aE w'
section
variable{base:Nat}{LC:eX}{g g':Gh}{lb lb':LB}{own aE:OW}{loc:Nat->Option (Nat×θ)}{mem:Mem}{w w':World}
theorem h_.pure{v:AV}{x:Value}(hm:a_ g own LC mem w)(hl:cx g lb own loc w)(ho:bT base own w)(h:VR g lb v x):h_ base LC g lb own loc w v none mem x w:=
 ⟨g,lb,own,.refl g own w,fun _ _ _ h=>h,h,hm,hl,ho⟩
theorem a_.bm(h:a_ g own LC mem w)(hg:g.sub g')(Da:∀id,g.mb id=none->g'.mb id=none)(n_:∀t n,g.rows t n=none->g'.rows t n=none)
  (hb:∀id b,own b=some (.m id)->aE b=own b/\w'.heap[b]?=w.heap[b]?/\∀o,g'.im b o=g.im b o)
  (cC:∀b o x,g'.im b o=some x->w'.cell? ⟨b,o,none⟩=some x):a_ g' aE LC mem w':= {
 ju id b aT:=by
  cases hx:g.mb id with
  |none=>rw[Da id hx]at aT;cases aT
  |some c=>exact h.ju id c hx
 nu t n x hx:=by
  cases hy:g.rows t n with
  |none=>rw[n_ t n hy]at hx;cases hx
  |some y=>exact h.nu t n y hy
 blk id blk hid:=(h.blk id blk hid).bm hg (hb id) (n_ id) (Da id)
 im:=cC}
theorem cx.bm(h:cx g lb own loc w)(hg:g.sub g')
  (hb:∀d b,own b=some (.l d)->aE b=own b/\w'.heap[b]?=w.heap[b]?/\∀o,g'.im b o=g.im b o):cx g' lb aE loc w':= {
 cells d v l hd:=by obtain⟨b,h1,h2⟩:=h.cells d v l hd;obtain⟨k1,k2,k3⟩:=hb d b h2.1;exact⟨b,h1,h2.bm hg (fun _ _ _ h=>h) k1 k2 k3⟩
 iter d v s pos hd:=by obtain⟨b,h1,h2,h3,bs,h4,h5⟩:=h.iter d v s pos hd;obtain⟨k1,k2,k3⟩:=hb d b h2;exact⟨b,h1,k1.trans h2,fun o=>(k3 o).trans (h3 o),bs,k2.trans h4,h5⟩
 wm:=h.wm}
theorem ud(w:World)(o:Obj){b:Nat}(h:b<w.heap.size):(w.alloc o).heap[b]?=w.heap[b]?:=Go.RowKit.Below.heap_alloc w o b h
theorem qt(w:World)(o:Obj):(w.alloc o).heap[w.heap.size]?=some o:=by show(w.heap.push o)[w.heap.size]?=_;simp
theorem wH{w:World}{b o:Nat}{x:Value}(h:w.cell? ⟨b,o,none⟩=some x):b<w.heap.size:=by
 unfold sx at h;split at h
 ·rename_i heq;exact(zX.1 heq).1
 ·cases h
theorem h_.drew{v:AV}{u:kG}{m':Mem}{x:Value}(h:h_ base LC g lb own loc w.drew v u m' x w'):h_ base LC g lb own loc w v u m' x w':=by obtain⟨g',lb',aE,hs,r⟩:=h;exact⟨g',lb',aE,⟨hs.sub,hs.size,hs.os,hs.tape,hs.output,hs.bm,hs.jH,hs.im⟩,r⟩
theorem a_.drew(h:a_ g own LC mem w):a_ g own LC mem w.drew:=
 h.bm g.eP (fun _ h=>h) (fun _ _ h=>h) (fun _ _ _=>⟨rfl,rfl,fun _=>rfl⟩) h.im
theorem cx.drew(h:cx g lb own loc w):cx g lb own loc w.drew:=h.bm g.eP fun _ _ _=>⟨rfl,rfl,fun _=>rfl⟩
theorem bT.drew(h:bT base own w):bT base own w.drew:=⟨h.ge,h.base⟩
def gP(own:OW)(b:Nat)(o:Option Own):OW:=fun b'=>if b'=b then o else own b'
theorem zB(ho:bT base own w){b:Nat}{o:Own}(h:own b=some o):b≠w.heap.size:=by have:=(ho.ge b o h).2;omega
theorem a_.alloc(h:a_ g own LC mem w)(ho:bT base own w)(o:Obj)(nm:Option Own):a_ g (gP own w.heap.size nm) LC mem (w.alloc o):=
 h.bm g.eP (fun _ h=>h) (fun _ _ h=>h)
  (fun id b hb=>⟨by simp[gP,zB ho hb],ud w o (ho.ge b _ hb).2,fun _=>rfl⟩)
  (fun b o' x hx=>by
   have hc:=h.im b o' x hx
   rw[qj (ud w o (wH hc))];exact hc)
theorem cx.alloc(h:cx g lb own loc w)(ho:bT base own w)(o:Obj)(nm:Option Own):cx g lb (gP own w.heap.size nm) loc (w.alloc o):=
 h.bm g.eP (fun d b hb=>⟨by simp[gP,zB ho hb],ud w o (ho.ge b _ hb).2,fun _=>rfl⟩)
theorem eu.alloc(g:Gh)(own:OW)(w:World)(o:Obj)(nm:Option Own):eu g own w g (gP own w.heap.size nm) (w.alloc o):= {
 sub:=g.eP
 size:=by simp
 os:=rfl
 tape:=rfl
 output:=rfl
 bm b hb _:=ud w o hb
 jH b hb h:=by simp only[gP];rw[if_neg (by omega)];exact h
 im _ _ _ _:=rfl}
theorem bT.alloc(h:bT base own w)(o:Obj)(nm:Option Own):bT base (gP own w.heap.size nm) (w.alloc o):= {
 ge b o' hb:=by
  simp only[gP]at hb;split at hb
  ·rename_i ku;subst ku;exact⟨h.base,by simp⟩
  ·have:=h.ge b o' hb;exact⟨this.1,by simp;omega⟩
 base:=by have:=h.base;simp;omega}
theorem xB(h:a_ g own LC mem w)(o:Nat):g.im w.heap.size o=none:=by
 cases hx:g.im w.heap.size o with
 |none=>rfl
 |some x=>have:=wH (h.im _ _ _ hx);omega
def tf(lb:LB)(d v b:Nat):LB:=fun d' v'=>if d'=d/\v'=v then some b else lb d' v'
theorem Ww(h:cx g lb own loc w){d v b:Nat}(hb:lb d v=some b):v<bL loc d:=by obtain⟨v',blk,h1,h2⟩:=h.wm d v b hb;simp only[bL,h1];omega
theorem IF(h:cx g lb own loc w)(d b:Nat):∀d' i b',lb d' i=some b'->tf lb d (bL loc d) b d' i=some b':=by
 intro d' i b' hb;simp only[tf];rw[if_neg]
 ·exact hb
 ·rintro⟨rfl,rfl⟩
  exact B6 _ (Ww h hb)
theorem cx.new(h:cx g lb own loc w)(ho:bT base own w)(d:Nat)(o:Obj)(blk:θ)
  (hc:∀l,blk= .cells l->qX g (tf lb d (bL loc d) w.heap.size) (gP own w.heap.size (some (.l d))) (w.alloc o) (.l d) w.heap.size l)
  (hi:∀s pos,blk= .iter s pos->(∀o,g.im w.heap.size o=none)/\∃bs:ByteArray,o= .stringIter bs pos/\bs.data.toList.map UInt8.toNat=s):
  cx g (tf lb d (bL loc d) w.heap.size) (gP own w.heap.size (some (.l d))) (ny loc (some (d,bL loc d,blk))) (w.alloc o):=by
 have h':=h.alloc ho o (some (.l d));have hs:=IF h d w.heap.size;refine⟨fun d' v l hd=>?_,fun d' v s pos hd=>?_,fun d' v b hb=>?_⟩
 ·simp only[ny]at hd;split at hd
  ·rename_i iq;subst iq;cases hd;exact⟨w.heap.size,by simp[tf],hc l rfl⟩
  ·obtain⟨b,h1,h2⟩:=h'.cells d' v l hd;exact⟨b,hs _ _ _ h1,h2.bm g.eP hs rfl rfl fun _=>rfl⟩
 ·simp only[ny]at hd;split at hd
  ·rename_i iq;subst iq;cases hd;obtain⟨k1,bs,rfl,k2⟩:=hi s pos rfl;exact⟨w.heap.size,by simp[tf],by simp[gP],k1,bs,qt w _,k2⟩
  ·obtain⟨b,h1,r⟩:=h'.iter d' v s pos hd;exact⟨b,hs _ _ _ h1,r⟩
 ·simp only[tf]at hb;split at hb
  ·rename_i iq;obtain⟨rfl,rfl⟩:=iq;exact⟨_,blk,by simp[ny],bA _⟩
  ·by_cases iq:d=d'
   ·subst iq;exact⟨_,blk,by simp[ny],Af (Ww h hb)⟩
   ·obtain⟨v',u6,h1,h2⟩:=h.wm d' v b hb;exact⟨v',u6,by simp[ny,iq,h1],h2⟩
theorem a_.push{o':OW}(h:a_ g own LC mem w)(hk:a_ g o' LC mem w')(blk:θ)(mL:Nat->Option Nat)
  (jx:∀id b,mL id=some b->g.mb id=some b\/id=mem.ε.length) (UM:∀id,id<mem.ε.length->mL id=g.mb id)
  (sU:tF {g with mb:=mL} o' LC w' mem.ε.length blk):a_ {g with mb:=mL} o' LC (mem.push blk) w':=by
 have di:g.sub {g with mb:=mL}:=⟨fun _ _ _ h=>h,fun id b hb=>by rw[<-hb];exact UM id (h.ju id b hb),fun _ _ _ h=>h⟩;refine⟨fun id b hb=>?_,fun t n x hx=>?_,fun id u6 hid=>?_,hk.im⟩
 ·simp only[Mem.push,cD,cE,eI];rcases jx id b hb with aT|rfl
  ·have:=h.ju id b aT;omega
  ·omega
 ·have:=h.nu t n x hx;simp only[Mem.push,cD,cE,eI];omega
 ·simp only[Mem.push]at hid;rcases cX id mem.ε.length with χ|du
  ·rw[eo χ]at hid;exact(hk.blk id u6 hid).bm di (fun _ _=>⟨rfl,rfl,fun _=>rfl⟩) (fun _ h=>h) (fun hn=>by show mL id=none;rw[UM id χ];exact hn)
  ·rw[tL du]at hid;have:id=mem.ε.length:=by
    rcases cX 0 (id-mem.ε.length)with h0|h0
    ·rw[hU (by simp;omega)]at hid;cases hid
    ·omega
   subst this;simp at hid;subst hid;exact sU
theorem IT{v:AV}{x:Value}(_h:a_ g own LC mem w)(hv:VR g lb v x):VR g bV (mem.ν v) x:=VR.ν hv
theorem af6(hm:a_ g own LC mem w)(hl:cx g lb own loc w)(ho:bT base own w){T e:TypeId}:
  h_ base LC g lb own loc w (.μ mem.ε.length 0) none (mem.push (.nH T e [])) (.pointer (some ⟨w.heap.size,0,none⟩)) (w.alloc (.cells #[.pointer none,.slice none 0 0] T)):=by
 have cC:∀o,g.im w.heap.size o=none:=xB hm;let g':Gh:= {g with mb:=fun id=>if id=mem.ε.length then some w.heap.size else g.mb id};have di:g.sub g':=⟨fun _ _ _ h=>h,fun id b hb=>by
  have:=hm.ju id b hb
  simp only[g'];rw[if_neg (by omega)];exact hb,fun _ _ _ h=>h⟩
 have Ω:=eu.alloc g own w (.cells #[.pointer none,.slice none 0 0] T) (some (.m mem.ε.length));refine⟨g',lb,_,⟨di,Ω.size,Ω.os,Ω.tape,Ω.output,Ω.bm,Ω.jH,Ω.im⟩,fun _ _ _ h=>h,.μ _ _ _ _ (by simp[g']),?_,?_,ho.alloc _ _⟩
 ·refine hm.push (hm.alloc ho _ _) _ _ (fun id b hb=>?_) (fun id hid=>?_) ?_
  ·split at hb
   ·exact .inr (by assumption)
   ·exact .inl hb
  ·exact if_neg (by omega)
  ·exact⟨w.heap.size,by simp,by simp[gP],cC,_,_,qt w _,.inl rfl,fun x hx=>(by cases hx),.inl ⟨rfl,rfl⟩⟩
 ·exact(hl.alloc ho _ _).bm di fun _ _ _=>⟨rfl,rfl,fun _=>rfl⟩
theorem Wv(hm:a_ g own LC mem w)(hl:cx g lb own loc w)(ho:bT base own w){oG:Bool}{dst:Option Nat}{l:List AV}{cs:Array Value}{e:TypeId}
  (hs:l.length<=cs.size) (hv:∀i (h:i<l.length) (h':i<cs.size),VR g lb l[i] cs[i]) (h1:∀i (h':i<cs.size),cs[i].oneCell'=true)
  {v:AV} {u:kG} {m':Mem} (hr:newVar loc mem oG dst l=some (v,u,m')):
  h_ base LC g lb own loc w v u m' (.pointer (some ⟨w.heap.size,0,none⟩)) (w.alloc (.cells cs e)):=by
 have cC:∀o,g.im w.heap.size o=none:=xB hm;unfold newVar at hr;split at hr
 ·simp only[bc,az]at hr;obtain⟨rfl,rfl,rfl⟩:=hr;let g':Gh:= {g with mb:=fun id=>if id=mem.ε.length then some w.heap.size else g.mb id};have di:g.sub g':=⟨fun _ _ _ h=>h,fun id b hb=>by
   have:=hm.ju id b hb
   simp only[g'];rw[if_neg (by omega)];exact hb,fun _ _ _ h=>h⟩
  have Ω:=eu.alloc g own w (.cells cs e) (some (.m mem.ε.length));refine⟨g',lb,_,⟨di,Ω.size,Ω.os,Ω.tape,Ω.output,Ω.bm,Ω.jH,Ω.im⟩,fun _ _ _ h=>h,.μ _ _ _ _ (by simp[g']),?_,?_,ho.alloc _ _⟩
  ·refine hm.push (hm.alloc ho _ _) _ _ (fun id b hb=>?_) (fun id hid=>?_) ?_
   ·split at hb
    ·exact .inr (by assumption)
    ·exact .inl hb
   ·exact if_neg (by omega)
   ·refine⟨w.heap.size,by simp,by simp[gP],cC,cs,e,qt w _,by simpa using hs,fun i hi ab=>?_,h1⟩;simp only[iY];exact(IT hm (hv i (by simpa using hi) ab)).sub di
  ·exact(hl.alloc ho _ _).bm di fun _ _ _=>⟨rfl,rfl,fun _=>rfl⟩
 ·split at hr
  ·rename_i d;simp only[bc,az]at hr;obtain⟨rfl,rfl,rfl⟩:=hr;refine⟨g,tf lb d (bL loc d) w.heap.size,_,.alloc g own w _ (some (.l d)),IF hl d _,.aj _ _ _ _ _ (by simp[tf]),hm.alloc ho _ _,?_,ho.alloc _ _⟩;refine hl.new ho d _ _ (fun l' sS=>?_) (fun s pos h=>by cases h);cases sS;exact⟨by simp[gP],cC,cs,e,qt w _,hs,fun i hi ab=>(hv i hi ab).mono g.eP (IF hl d _),h1⟩
  ·cases hr
theorem O4(hm:a_ g own LC mem w)(hl:cx g lb own loc w)(ho:bT base own w){oG:Bool}{dst:Option Nat}{l:List AV}{cs:Array Value}{e:TypeId}
  (hs:cs.size=l.length) (hv:∀i (h:i<l.length) (h':i<cs.size),VR g lb l[i] cs[i]) (h1:∀i (h':i<cs.size),cs[i].oneCell'=true)
  {v:AV} {u:kG} {m':Mem} (hr:newVar loc mem oG dst l=some (v,u,m')):
  h_ base LC g lb own loc w v u m' (.pointer (some ⟨w.heap.size,0,none⟩)) (w.alloc (.cells cs e)):=Wv hm hl ho (by omega) hv h1 hr
end
def PW{α β:Type}(R:α->β->Prop)(l:List α)(m:List β):Prop:=l.length=m.length/\∀i (h:i<l.length) (h':i<m.length),R l[i] m[i]
section
variable{α β:Type}{R:α->β->Prop}
theorem PW.append{l l':List α}{m m':List β}(h:PW R l m)(h':PW R l' m'):PW R (l++l') (m++m'):=by
 refine⟨by simp[h.1,h'.1],fun i hi ab=>?_⟩;rcases cX i l.length with χ|du
 ·rw[xX χ,xX (by have:=h.1;omega)];exact h.2 i χ _
 ·rw[xY du,xY (by have:=h.1;omega)];have he:i-m.length=i-l.length:=by rw[h.1]
  have:=h'.2 (i-l.length) (by simp at hi;omega) (by simp at ab;have:=h.1;omega);simpa[h.1]using this
theorem PW.take{l:List α}{m:List β}(h:PW R l m)(n:Nat):PW R (l.take n) (m.take n):=by refine⟨by simp[h.1],fun i hi ab=>?_⟩;simp only[BX];exact h.2 i _ _
theorem PW.drop{l:List α}{m:List β}(h:PW R l m)(n:Nat):PW R (l.drop n) (m.drop n):=by refine⟨by simp[h.1],fun i hi ab=>?_⟩;simp only[xZ];exact h.2 _ _ _
theorem PW.mono{R':α->β->Prop}{l:List α}{m:List β}(h:PW R l m)(hr:∀a b,R a b->R' a b):PW R' l m:=⟨h.1,fun i hi ab=>hr _ _ (h.2 i hi ab)⟩
theorem PW.map{γ:Type}{R':γ->β->Prop}{l:List α}{m:List β}(f:α->γ)(h:PW R l m)(hr:∀a b,R a b->R' (f a) b):PW R' (l.map f) m:=
 ⟨by simp[h.1],fun i hi ab=>by simp only[iY];exact hr _ _ (h.2 i (by simpa using hi) ab)⟩
theorem PW.nil:PW R ([]:List α) ([]:List β):=⟨rfl,fun i h=>by simp at h⟩
theorem PW.cons{a:α}{b:β}{l:List α}{m:List β}(h:R a b)(hl:PW R l m):PW R (a::l) (b::m):=by
 refine⟨by simp[hl.1],fun i hi ab=>?_⟩;cases i with
 |zero=>exact h
 |succ i=>exact hl.2 i (by simpa using hi) (by simpa using ab)
end
section
variable{base:Nat}{LC:eX}{g g':Gh}{lb lb':LB}{own aE:OW}{loc:Nat->Option (Nat×θ)}{mem:Mem}{w w':World}
def arr(cur:Array Value)(off:Nat)(vs:List Value):Array Value:=(cur.toList.take off++vs++cur.toList.drop (off+vs.length)).toArray
theorem qX.pw{nm:Own}{b:Nat}{l:List AV}(h:qX g lb own w nm b l):∃a e,w.heap[b]?=some (.cells a e (0,0))/\PW (VR g lb) l (a.toList.take l.length)/\l.length<=a.size/\∀v∈a.toList,v.oneCell'=true:=by obtain⟨_,_,a,e,h3,h4,h5,h6⟩:=h;refine⟨a,e,h3,⟨by simp;omega,fun i hi ab=>by simpa using h5 i hi (by omega)⟩,h4,fun v hv=>?_⟩;obtain⟨i,hi,rfl⟩:=pj.1 hv;simpa using h6 i (by simpa using hi)
theorem YW{α:Type}(x vs:List α){off n:Nat}(h:off+vs.length<=n)(hn:n<=x.length):(x.take off++vs++x.drop (off+vs.length)).take n=(x.take n).take off++vs++(x.take n).drop (off+vs.length):=by
 rw[List.take_take,z_,Nat.min_eq_left (by omega)];have h1:(x.take off++vs).length=off+vs.length:=by simp;omega
 rw[List.take_append,h1,fw (by omega)]
theorem qX.store{nm:Own}{b:Nat}{l:List AV}(h:qX g lb own w nm b l){off:Nat}{cs:List AV}{vs:List Value}(cM:PW (VR g lb) cs vs)(h1:∀v∈vs,v.oneCell'=true)
  (hle:off+cs.length<=l.length):
  ∃a e,w.heap[b]?=some (.cells a e (0,0))/\off+vs.length<=a.size/\qX g lb own (w.setRow b (arr a off vs)) nm b (dd l off cs):=by
 obtain⟨a,e,ha,hp,hl,ho⟩:=h.pw;have hc:=cM.1;have Bd:PW (VR g lb) (dd l off cs) ((a.toList.take off++vs++a.toList.drop (off+vs.length)).take l.length):=by rw[YW _ _ (by omega) (by simpa using hl)];unfold dd;rw[hc];exact((hp.take off).append cM).append (hp.drop _)
 have jX:(dd l off cs).length=l.length:=by simp[dd];omega
 refine⟨a,e,ha,by omega,h.1,h.2.1,arr a off vs,e,setRow_heap w b a _ e _ ha,?_,?_,?_⟩
 ·rw[jX];simp[arr];omega
 ·intro i hi ab;have:=Bd.2 i hi (by rw[List.length_take];simp[arr]at ab⊢;omega);simpa[arr]using this
 ·intro i hi;have hm:(arr a off vs)[i]∈(a.toList.take off++vs++a.toList.drop (off+vs.length)):=by simp[arr]
  rcases dE.1 hm with hm|hm
  ·rcases dE.1 hm with hm|hm
   ·exact ho _ (pn hm)
   ·exact h1 _ hm
  ·exact ho _ (tM hm)
theorem a_.setRow_other(h:a_ g own LC mem w){b:Nat}(a:Array Value)(hb:∀id,own b≠some (.m id))(cC:∀o,g.im b o=none):a_ g own LC mem (w.setRow b a):=by
 refine h.bm g.eP (fun _ h=>h) (fun _ _ h=>h) (fun id b' aT=>⟨rfl,Go.setRow_other w b b' a ?_,fun _=>rfl⟩) (fun b' o x hx=>?_)
 ·rintro rfl;exact hb id aT
 ·have τ:b'≠b:=by rintro rfl;rw[cC]at hx;cases hx
  rw[qj (Go.setRow_other w b b' a τ)];exact h.im _ _ _ hx
theorem cx.setRow_other(h:cx g lb own loc w){b:Nat}(a:Array Value)(hb:∀d,own b≠some (.l d)):cx g lb own loc (w.setRow b a):=
 h.bm g.eP fun d b' aT=>⟨rfl,Go.setRow_other w b b' a (by rintro rfl;exact hb d aT),fun _=>rfl⟩
theorem eu.setRow(g:Gh){own:OW}(w:World){b:Nat}(a:Array Value){o:Own}(hb:own b=some o):eu g own w g own (w.setRow b a):= {
 sub:=g.eP
 size:=by simp
 os:=rfl
 tape:=rfl
 output:=rfl
 bm b' _ ho:=Go.setRow_other w b b' a (by rintro rfl;rw[hb]at ho;cases ho)
 jH _ _ h:=h
 im _ _ _ _:=rfl}
theorem bT.setRow(h:bT base own w)(b:Nat)(a:Array Value):bT base own (w.setRow b a):=⟨fun b' o hb=>by simpa using h.ge b' o hb,by simpa using h.base⟩
theorem a_.ER(h:a_ g own LC mem w){zj:Nat}{Fk:θ}{t:List Nat}(h0:zj<mem.ε.length)(hg:g.sub g')(Da:∀id,g.mb id=none->g'.mb id=none)
  (n_:∀t n,t≠zj->g.rows t n=none->g'.rows t n=none)
  (hb:∀id b,id≠zj->own b=some (.m id)->aE b=own b/\w'.heap[b]?=w.heap[b]?/\∀o,g'.im b o=g.im b o)
  (sU:tF g' aE LC w' zj Fk) (cC:∀b o x,g'.im b o=some x->w'.cell? ⟨b,o,none⟩=some x):
  a_ g' aE LC {ε:=mem.ε.set zj Fk,ζ:=t} w':= {
 ju id b aT:=by
  simp only[mS];cases hx:g.mb id with
  |none=>rw[Da id hx]at aT;cases aT
  |some c=>exact h.ju id c hx
 nu t n x hx:=by
  simp only[mS];by_cases ht:t=zj
  ·subst ht;exact h0
  ·cases hy:g.rows t n with
   |none=>rw[n_ t n ht hy]at hx;cases hx
   |some y=>exact h.nu t n y hy
 blk id blk hid:=by
  simp only[List.getElem?_set]at hid;by_cases hi:zj=id
  ·subst hi;rw[if_pos rfl,if_pos h0]at hid;cases hid;exact sU
  ·rw[if_neg hi]at hid;exact(h.blk id blk hid).bm hg (fun b=>hb id b (Ne.symm hi)) (fun n=>n_ id n (Ne.symm hi)) (Da id)
 im:=cC}
theorem P5(hm:a_ g own LC mem w)(hl:cx g lb own loc w)(ho:bT base own w){p:AV}{x:Value}{cs:List AV}{vs:List Value}(hp:VR g lb p x)
  (cM:PW (VR g lb) cs vs) (h1:∀v∈vs,v.oneCell'=true) {u:kG} {m':Mem} (hr:wr loc mem p cs=some (u,m')):
  ∃(b off:Nat) (a:Array Value) (e:TypeId),x= .pointer (some ⟨b,off,none⟩)/\w.heap[b]?=some (.cells a e (0,0))/\off+vs.length<=a.size∧
   h_ base LC g lb own loc w .undef u m' undef (w.setRow b (arr a off vs)):=by
 cases p with
 |aj d v off=>
  cases hp with
  |aj _ _ _ _ b hb=>
  simp only[wr]at hr
  split at hr
  ·rename_i v' l hd;split at hr
   ·rename_i hc;obtain⟨rfl,hle⟩:=hc;simp only[bc,az]at hr;obtain⟨rfl,rfl⟩:=hr;obtain⟨b',aT,oJ⟩:=hl.cells d _ l hd;rw[hb]at aT;cases aT;obtain⟨a,e,ha,aJ,sU⟩:=oJ.store cM h1 hle;have dq:=oJ.1;refine⟨b,off,a,e,rfl,ha,aJ,g,lb,own,.setRow g w _ dq,fun _ _ _ h=>h,.undef _,hm.setRow_other _ (fun id=>by rw[dq];simp) oJ.2.1,?_,ho.setRow _ _⟩;refine⟨fun d' i l' kx=>?_,fun d' i s pos kx=>?_,fun d' i b' aT=>?_⟩
    ·simp only[ny]at kx;split at kx
     ·rename_i iq;subst iq;cases kx;exact⟨b,hb,sU⟩
     ·rename_i iq;obtain⟨b2,k1,k2⟩:=hl.cells d' i l' kx;have τ:b2≠b:=by rintro rfl;have:=k2.1;rw[dq]at this;cases this;exact iq rfl
      exact⟨b2,k1,k2.bm g.eP (fun _ _ _ h=>h) rfl (Go.setRow_other w b b2 _ τ) fun _=>rfl⟩
    ·simp only[ny]at kx;split at kx
     ·cases kx
     ·rename_i iq;obtain⟨b2,k1,k2,k3,bs,k4,k5⟩:=hl.iter d' i s pos kx;have τ:b2≠b:=by rintro rfl;rw[dq]at k2;cases k2;exact iq rfl
      exact⟨b2,k1,k2,k3,bs,(Go.setRow_other w b b2 _ τ).trans k4,k5⟩
    ·obtain⟨v2,Ko,k1,k2⟩:=hl.wm d' i b' aT;by_cases iq:d=d'
     ·subst iq;rw[hd]at k1;cases k1;exact⟨_,.cells (dd l off cs),by simp[ny],k2⟩
     ·exact⟨v2,Ko,by simp[ny,iq,k1],k2⟩
   ·cases hr
  ·cases hr
 |μ id off=>
  cases hp with
  |μ _ _ _ b hb=>
  simp only[wr]at hr
  split at hr
  ·rename_i l hd;split at hr
   ·rename_i hle;simp only[bc,az]at hr;obtain⟨rfl,rfl⟩:=hr;obtain⟨b',aT,oJ⟩:=hm.blk id _ hd;rw[hb]at aT;cases aT;have acK:PW (VR g bV) (cs.map mem.ν) vs:=cM.map _ fun _ _ h=>IT hm h;obtain⟨a,e,ha,aJ,sU⟩:=oJ.store acK h1 (by simpa using hle);have dq:=oJ.1;refine⟨b,off,a,e,rfl,ha,aJ,g,lb,own,.setRow g w _ dq,fun _ _ _ h=>h,.undef _,?_,hl.setRow_other _ (fun d=>by rw[dq];simp),ho.setRow _ _⟩;have hid:id<mem.ε.length:=hm.ju id b hb;refine hm.ER hid g.eP (fun _ h=>h) (fun _ _ _ h=>h) (fun mI b' τ aT=>⟨rfl,Go.setRow_other w b b' _ ?_,fun _=>rfl⟩) ⟨b,hb,sU⟩ (fun b' o x hx=>?_)
    ·rintro rfl;rw[dq]at aT;cases aT;exact τ rfl
    ·have τ:b'≠b:=by rintro rfl;rw[oJ.2.1]at hx;cases hx
     rw[qj (Go.setRow_other w b b' _ τ)];exact hm.im _ _ _ hx
   ·cases hr
  ·cases hr
 |_=>simp[wr]at hr
end
def FR(g:Gh)(lb:LB)(sz:Nat)(l:List AV)(vs:List Value):Prop:=
 vs.length=l.length*sz/\(∀e∈l,e.cells.length=sz)/\(∀v∈vs,v.oneCell'=true)∧
  ∀i (h:i<l.length) j (hj:j<l[i].cells.length) (h':i*sz+j<vs.length),VR g lb l[i].cells[j] vs[i*sz+j]
theorem DU{i j n sz:Nat}(hi:i<n)(hj:j<sz):i*sz+j<n*sz:=by have h1:(i+1)*sz<=n*sz:=mq _ hi;rw[kF]at h1;omega
section
variable{base:Nat}{LC:eX}{g g':Gh}{lb lb':LB}{own aE:OW}{loc:Nat->Option (Nat×θ)}{mem:Mem}{w w':World}
theorem FR.nil(sz:Nat):FR g lb sz [] []:=⟨by simp,by simp,by simp,by simp⟩
theorem FR.append{sz:Nat}{l m:List AV}{vs us:List Value}(h:FR g lb sz l vs)(k:FR g lb sz m us):FR g lb sz (l++m) (vs++us):=by
 refine⟨by simp[h.1,k.1,kF],fun e he=>?_,fun v hv=>?_,fun i hi j hj oN=>?_⟩
 ·rcases dE.1 he with he|he
  ·exact h.2.1 e he
  ·exact k.2.1 e he
 ·rcases dE.1 hv with hv|hv
  ·exact h.2.2.1 v hv
  ·exact k.2.2.1 v hv
 ·rcases cX i l.length with χ|du
  ·have e1:(l++m)[i]=l[i]:=xX χ;have dJ:j<l[i].cells.length:=by rw[<-e1];exact hj
   have aJ:l[i].cells.length=sz:=h.2.1 _ (df χ);have eO:i*sz+j<vs.length:=by rw[h.1];exact DU χ (by omega)
   rw[xX eO];have:=h.2.2.2 i χ j dJ eO;simpa only[e1]using this
  ·have e1:(l++m)[i]=m[i-l.length]'(by simp at hi;omega):=xY du;have dJ:j<(m[i-l.length]'(by simp at hi;omega)).cells.length:=by rw[<-e1];exact hj
   have hmul:i*sz=l.length*sz+(i-l.length)*sz:=by rw[<-kF];congr 1;omega
   have yS:vs.length<=i*sz+j:=by rw[h.1,hmul];omega
   have M7:i*sz+j-vs.length=(i-l.length)*sz+j:=by rw[h.1,hmul];omega
   have eO:(i-l.length)*sz+j<us.length:=by
    have:i*sz+j<vs.length+us.length:=by simpa using oN
    omega
   rw[xY yS];have:=k.2.2.2 (i-l.length) (by simp at hi;omega) j dJ eO;simp only[M7,e1];exact this
theorem FR.mono{sz:Nat}{l:List AV}{vs:List Value}(h:FR g lb sz l vs)(hg:g.sub g')(hl:∀d i b,lb d i=some b->lb' d i=some b):FR g' lb' sz l vs:=
 ⟨h.1,h.2.1,h.2.2.1,fun i hi j hj oN=>(h.2.2.2 i hi j hj oN).mono hg hl⟩
theorem FR.ν{sz:Nat}{l:List AV}{vs:List Value}(hm:a_ g own LC mem w)(h:FR g lb sz l vs):FR g bV sz (l.map mem.ν) vs:=by
 have hc:∀v:AV,(mem.ν v).cells=v.cells.map mem.ν:=fun v=>FD v;refine⟨by simp[h.1],fun e he=>?_,h.2.2.1,fun i hi j hj oN=>?_⟩
 ·obtain⟨e',qs,rfl⟩:=eT.1 he;rw[hc,cF];exact h.2.1 e' qs
 ·have ab:i<l.length:=by simpa using hi
  have dJ:j<l[i].cells.length:=by simpa[hc]using hj
  have:=IT hm (h.2.2.2 i ab j dJ oN);simpa[hc]using this
theorem VR.flat{c:ξ}{l:List AV}{x:Value}{sz:Nat}(h:VR g lb (.list c l) x)(aJ:∀e∈l,e.cells.length=sz)(τ:l≠[]):
  ∃(b o cap:Nat) (vs:List Value),x= .slice (some ⟨b,o,none⟩) l.length cap/\l.length<=cap/\mV g l.length b o cap c/\FR g bV sz l vs∧
   ∀q v,vs[q]?=some v->g.im b (o+q)=some v:=by
 cases h with
 |iS=>exact absurd rfl τ
 |iw=>exact absurd rfl τ
 |list _ _ _ b o eQ n cap xs hn dP hc DK cC hv=>
  subst hn
  have hs:eQ=sz:=by
   cases l with
   |nil=>exact absurd rfl τ
   |cons e l=>rw[<-DK e (by simp),aJ e (by simp)]
  subst hs;have jN:∀q,q<l.length*eQ->0<eQ:=fun q hq=>by
   rcases Nat.eq_zero_or_pos eQ with h|h
   ·rw[h]at hq;simp at hq
   ·exact h
  have hdiv:∀q,q<l.length*eQ->q/eQ<l.length/\q % eQ<eQ/\q/eQ*eQ+q % eQ=q:=fun q hq=>⟨Nat.div_lt_of_lt_mul (by rw[ak'];exact hq),Nat.mod_lt _ (jN q hq),by rw[ak'];exact Nat.div_add_mod q eQ⟩;refine⟨b,o,cap,(qZ (l.length*eQ)).map fun q=>xs (q/eQ) (q % eQ),rfl,dP,hc,⟨by simp,aJ,fun v nj=>?_,fun i hi j hj oN=>?_⟩,fun q v hq=>?_⟩
  ·obtain⟨q,hq,rfl⟩:=eT.1 nj;obtain⟨k1,k2,k3⟩:=hdiv q (Ad.1 hq);exact(cC _ k1 _ k2).2
  ·simp only[iY,J4];have dJ:j<eQ:=by rw[<-aJ _ (df hi)];exact hj
   have h1:(i*eQ+j)/eQ=i:=by rw[ak',Nat.mul_add_div (by omega),Nat.div_eq_of_lt dJ];rfl
   have h2:(i*eQ+j) % eQ=j:=by rw[ak',Nat.mul_add_mod,Nat.mod_eq_of_lt dJ]
   rw[h1,h2];exact hv i hi j hj
  ·have χ:q<l.length*eQ:=by have:=(fu.1 hq).1;simpa using this
   obtain⟨k1,k2,k3⟩:=hdiv q χ;simp only[nD,ak_ χ,qh,bc]at hq;subst hq;have:=(cC _ k1 _ k2).1;rwa[k3]at this
theorem VR.I0{c:ξ}{l:List AV}{sz b o n cap:Nat}{vs:List Value}(h:FR g bV sz l vs)(hn:l.length=n)(dP:n<=cap)(hc:mV g n b o cap c)
  (cC:∀q v,vs[q]?=some v->g.im b (o+q)=some v):VR g lb (.list c l) (.slice (some ⟨b,o,none⟩) n cap):=by
 subst hn;have χ:∀i,i<l.length->∀j,j<sz->i*sz+j<vs.length:=fun i hi j hj=>by rw[h.1];exact DU hi hj
 refine .list _ c l b o sz _ cap (fun i j=>vs.getD (i*sz+j) Go.undef) rfl dP hc h.2.1 (fun i hi j hj=>?_) (fun i hi j hj=>?_)
 ·have hl:=χ i hi j hj;refine⟨?_,?_⟩
  ·rw[nC,dN hl];exact cC _ _ (dN hl)
  ·rw[nC,dN hl];exact h.2.2.1 _ (df hl)
 ·have dJ:j<sz:=by rw[<-h.2.1 _ (df hi)];exact hj
  have hl:=χ i hi j dJ;rw[nC,dN hl];exact h.2.2.2 i hi j hj hl
theorem FR.one{v:AV}{x:Value}{sz:Nat}(h:VR g lb v x)(hs:v.cells.length=sz)(h0:0<sz):FR g lb sz [v] x.cells.toList:=by
 obtain⟨h1,h2,h3⟩:=h.cells (by intro hn;rw[hn]at hs;simp at hs;omega);refine⟨by simp[h1,hs],by simp[hs],fun u hu=>?_,fun i hi j hj oN=>?_⟩
 ·obtain⟨i,hi,rfl⟩:=pj.1 hu;simpa using h3 i (by simpa using hi)
 ·have:i=0:=by simpa using hi
  subst this;have:=h2 j (by simpa using hj) (by simp at oN;omega);simpa using this
def Gh.row(g:Gh)(b:Nat)(vs:List Value):Gh:= {g with im:=fun b' o=>if b'=b then vs[o]? else g.im b' o}
theorem Xx{b:Nat}{vs:List Value}(h:∀o,g.im b o=none):g.sub (g.row b vs):=
 ⟨fun b' o x hx=>(by
  simp only[Gh.row];rw[if_neg]
  ·exact hx
  ·rintro rfl;rw[h]at hx;cases hx),fun _ _ h=>h,fun _ _ _ h=>h⟩
theorem aiS(hm:a_ g own LC mem w)(hl:cx g lb own loc w)(ho:bT base own w){l:List AV}{a:Array Value}{sz:Nat}{e:TypeId}(hf:FR g bV sz l a.toList):
  h_ base LC g lb own loc w (.list .full l) none mem (.slice (some ⟨w.heap.size,0,none⟩) l.length l.length) (w.alloc (.cells a e)):=by
 have hn:=xB hm;have di:g.sub (g.row w.heap.size a.toList):=Xx hn;have Ω:=eu.alloc g own w (.cells a e) none;have Dl:∀b o,own b=some o->∀q,(g.row w.heap.size a.toList).im b q=g.im b q:=fun b o hb q=>by simp[Gh.row,zB ho hb]
 have lM:=hm.alloc ho (.cells a e) none;refine⟨g.row w.heap.size a.toList,lb,_,⟨di,Ω.size,Ω.os,Ω.tape,Ω.output,Ω.bm,Ω.jH,fun b hb _ q=>by simp only[Gh.row];rw[if_neg (by omega)]⟩,
  fun _ _ _ h=>h,?_,?_,?_,ho.alloc _ _⟩
 ·refine VR.I0 (hf.mono di (fun _ _ _ h=>by cases h)) rfl (bA _) rfl (fun q v hq=>?_);simp only[Gh.row,lj,if_true];exact hq
 ·refine lM.bm di (fun _ h=>h) (fun _ _ h=>h) (fun id b hb=>⟨rfl,rfl,?_⟩) (fun b o x hx=>?_)
  ·have aT:own b=some (.m id):=by
    simp only[gP]at hb;split at hb
    ·cases hb
    ·exact hb
   exact Dl b _ aT
  ·simp only[Gh.row]at hx;split at hx
   ·rename_i ku;subst ku;simp only[sx,qt];simpa using hx
   ·exact lM.im b o x hx
 ·refine(hl.alloc ho (.cells a e) none).bm di (fun d b hb=>⟨rfl,rfl,?_⟩);have aT:own b=some (.l d):=by
   simp only[gP]at hb;split at hb
   ·cases hb
   ·exact hb
  exact Dl b _ aT
end
section
variable{P:Program}{base:Nat}{LC:eX}{g g':Gh}{lb lb':LB}{own aE:OW}{loc:Nat->Option (Nat×θ)}{mem:Mem}{w w':World}
def Gh.grow(g:Gh)(t k b cap:Nat):Gh:= {g with rows:=fun t' k'=>if t'=t/\k'=k then some (b,cap)else g.rows t' k'}
theorem Ts{t k b cap:Nat}(h:g.rows t k=none):g.sub (g.grow t k b cap):=
 ⟨fun _ _ _ h=>h,fun _ _ h=>h,fun t' k' x hx=>(by
  simp only[Gh.grow];rw[if_neg]
  ·exact hx
  ·rintro⟨rfl,rfl⟩;rw[h]at hx;cases hx)⟩
theorem AS(hm:a_ g own LC mem w)(hl:cx g lb own loc w)(ho:bT base own w){t n sz cap:Nat}{e:TypeId}{l:List AV}{vs:List Value}{rest:Array Value}{m':Mem}
  (hf:FR g bV sz l vs) (hn:l.length=n) (h0:0<sz) (dP:n<=cap) (pS:rest.size=(cap-n)*sz) (n_:∀m x,g.rows t m=some x->m<n) (jx:g.mb t=none)
  (lM:(t=mem.ε.length/\m'=mem.push (.front n sz e))\/(t<mem.ε.length/\m'=mem.put t (.front n sz e) true)):
  h_ base LC g lb own loc w (.list (.own t) l) none m' (.slice (some ⟨w.heap.size,0,none⟩) n cap) (w.drew.alloc (.cells (vs.toArray++rest) e)):=by
 refine h_.drew ?_;have yX:=hm.drew;have Dr:=hl.drew;have Dy:=ho.drew;have aJ:w.heap.size=w.drew.heap.size:=rfl;rw[aJ];generalize w.drew=w at*;clear hm hl ho;have qx:=xB yX;have NN:g.rows t n=none:=by
  cases hx:g.rows t n with
  |none=>rfl
  |some x=>have:=n_ n x hx;omega
 let o:=Obj.cells (vs.toArray++rest) e;let g1:=g.row w.heap.size vs;let g':=g1.grow t n w.heap.size cap;have ur:g.sub g1:=Xx qx;have di:g.sub g':=Gh.BL ur (Ts (by exact NN));have Ω:=eu.alloc g own w o (some (.m t));have UY:∀b o',own b=some o'->∀q,g'.im b q=g.im b q:=fun b o' hb q=>by simp[g',g1,Gh.grow,Gh.row,zB Dy hb]
 have hlen:vs.length=n*sz:=by rw[<-hn];exact hf.1
 have Dl:∀id b,own b=some (.m id)->gP own w.heap.size (some (.m t)) b=own b/\(w.alloc o).heap[b]?=w.heap[b]?/\∀q,g'.im b q=g.im b q:=
  fun id b hb=>⟨by simp[gP,zB Dy hb],ud w o (Dy.ge b _ hb).2,UY b _ hb⟩
 have cC:∀b q x,g'.im b q=some x->(w.alloc o).cell? ⟨b,q,none⟩=some x:=by
  intro b q x hx;have gr:(if b=w.heap.size then vs[q]? else g.im b q)=some x:=hx;split at gr
  ·rename_i ku;subst ku;simp only[sx,o,qt];have hq:q<vs.length:=(fu.1 gr).1;rw[Array.getElem?_append_left (by simpa using hq)];simpa using gr
  ·have:=yX.im b q x gr;rw[qj (ud w o (wH this))];exact this
 have gN:tF g' (gP own w.heap.size (some (.m t))) LC (w.alloc o) t (.front n sz e):=by
  refine⟨h0,w.heap.size,cap,by simp[g',Gh.grow],dP,by simp[gP],⟨_,qt w o,?_⟩,fun q hq=>?_,fun m x hx=>?_,jx⟩
  ·simp only[Array.size_append,List.size_toArray,hlen,pS,<-kF];congr 1;omega
  ·show(if w.heap.size=w.heap.size then vs[q]? else _)=none;rw[if_pos rfl,hU (by omega)]
  ·simp only[g',Gh.grow]at hx;split at hx
   ·rename_i h;omega
   ·exact Af (n_ m x hx)
 refine⟨g',lb,gP own w.heap.size (some (.m t)),⟨di,Ω.size,Ω.os,Ω.tape,Ω.output,Ω.bm,Ω.jH,fun b hb _ q=>?_⟩,fun _ _ _ h=>h,?_,?_,?_,Dy.alloc _ _⟩
 ·simp only[g',g1,Gh.grow,Gh.row];rw[if_neg (by omega)]
 ·refine VR.I0 (hf.mono di (fun _ _ _ h=>by cases h)) hn dP ⟨rfl,by simp[g',Gh.grow]⟩ (fun q v hq=>?_);show(if w.heap.size=w.heap.size then vs[0+q]? else _)=some v;rw[if_pos rfl,lj];exact hq
 ·rcases lM with⟨ht,rfl⟩|⟨ht,rfl⟩
  ·have hk:a_ g own LC mem w:=yX;refine⟨fun id b hb=>?_,fun t' k x hx=>?_,fun id blk hid=>?_,cC⟩
   ·have:=yX.ju id b hb;simp only[Mem.push,cD,cE,eI];omega
   ·simp only[Mem.push,cD,cE,eI];simp only[g',g1,Gh.grow,Gh.row]at hx;split at hx
    ·omega
    ·have:=yX.nu t' k x hx;omega
   ·simp only[Mem.push]at hid;rcases cX id mem.ε.length with χ|du
    ·rw[eo χ]at hid;refine(yX.blk id blk hid).bm di (Dl id) (fun k hk=>?_) (fun h=>h);simp only[g',g1,Gh.grow,Gh.row];rw[if_neg (by omega)];exact hk
    ·rw[tL du]at hid;have:id=mem.ε.length:=by
      rcases cX 0 (id-mem.ε.length)with h0|h0
      ·rw[hU (by simp;omega)]at hid;cases hid
      ·omega
     subst this;simp at hid;subst hid;rw[<-ht];exact gN
  ·refine yX.ER ht di (fun _ h=>h) (fun t' k τ hk=>?_) (fun id b _ hb=>Dl id b hb) gN cC;simp only[g',g1,Gh.grow,Gh.row];rw[if_neg (by omega)];exact hk
 ·exact(Dr.alloc Dy o (some (.m t))).bm di fun d b hb=>⟨rfl,rfl,by
   have aT:own b=some (.l d):=by
    simp only[gP]at hb;split at hb
    ·cases hb
    ·exact hb
   exact UY b _ aT⟩
theorem Xv(hm:a_ g own LC mem w)(hl:cx g lb own loc w)(ho:bT base own w){t n k sz cap b:Nat}{e:TypeId}{l m:List AV}{vs us:List Value}{cur:Array Value}
  (hf:FR g bV sz l vs) (hk:FR g bV sz m us) (hn:l.length=n) (oR:m.length=k) (oP:0<k) (uq:n+k<=cap) (gN:mem.ε[t]?=some (.front n sz e)) (iu:g.rows t n=some (b,cap))
  (M8:∀q v,vs[q]?=some v->g.im b q=some v) (vq:w.heap[b]?=some (.cells cur e (0,0))):
  n*sz+us.length<=cur.size/\h_ base LC g lb own loc w (.list (.own t) (l++m)) none (mem.put t (.front (n+k) sz e) true) (.slice (some ⟨b,0,none⟩) (n+k) cap) (w.setRow b (arr cur (n*sz) us)):=by
 obtain⟨h0,b',gq,h1,h2,h3,⟨a,h4,h5⟩,h6,h7,h8⟩:=hm.blk t _ gN;rw[iu]at h1;cases h1;rw[vq]at h4;cases h4;have hul:us.length=k*sz:=by rw[<-oR];exact hk.1
 have Ig:vs.length=n*sz:=by rw[<-hn];exact hf.1
 have sP:n*sz+us.length<=cur.size:=by rw[hul,h5,<-kF];exact mq _ uq
 refine⟨sP,?_⟩;have vL:t<mem.ε.length:=(fu.1 gN).1;have NN:g.rows t (n+k)=none:=by
  cases hx:g.rows t (n+k)with
  |none=>rfl
  |some x=>have:=h7 _ x hx;omega
 let g1:Gh:= {g with im:=fun b' q=>if b'=b then(if n*sz<=q/\q<n*sz+us.length then us[q-n*sz]? else g.im b q)else g.im b' q};let g':=g1.grow t (n+k) b cap;have ur:g.sub g1:=⟨fun b' q x hx=>(by
  simp only[g1]
  split
  ·rename_i ku;subst ku;rw[if_neg]
   ·exact hx
   ·rintro⟨hq,_⟩;rw[h6 q hq]at hx;cases hx
  ·exact hx),fun _ _ h=>h,fun _ _ _ h=>h⟩
 have di:g.sub g':=Gh.BL ur (Ts (by exact NN));have Ω:=eu.setRow g w (arr cur (n*sz) us) h3;have jy:∀b',b'≠b->∀q,g'.im b' q=g.im b' q:=fun b' τ q=>by simp[g',g1,Gh.grow,τ]
 have abH:(arr cur (n*sz) us).size=cur.size:=by simp[arr];omega
 have cC:∀b' q x,g'.im b' q=some x->(w.setRow b (arr cur (n*sz) us)).cell? ⟨b',q,none⟩=some x:=by
  intro b' q x hx;by_cases ku:b'=b
  ·subst ku;simp only[sx,setRow_heap w b' cur _ e _ vq];have gr:(if n*sz<=q/\q<n*sz+us.length then us[q-n*sz]? else g.im b' q)=some x:=by simpa[g',g1,Gh.grow]using hx
   simp only[ala,jI,if_false];split at gr
   ·rename_i hq;have:(arr cur (n*sz) us)[q]?=us[q-n*sz]?:=by
     have H0:min (n*sz) cur.size=n*sz:=by omega
     simp only[arr,J1];rw[bH,tL (by simp;omega),eo (by simp;omega)];simp[H0]
    rw[this];exact gr
   ·rename_i hq;have vG:q<n*sz:=by
     rcases cX q (n*sz)with h|h
     ·exact h
     ·rw[h6 q h]at gr;cases gr
    have hold:=hm.im _ _ _ gr;simp only[sx,vq,ala,jI,if_false]at hold;have:(arr cur (n*sz) us)[q]?=cur[q]?:=by simp only[arr,J1];rw[bH,eo (by simp;omega)];simp[vG]
    rw[this];exact hold
  ·rw[jy b' ku]at hx;rw[qj (Go.setRow_other w b b' _ ku)];exact hm.im _ _ _ hx
 refine⟨g',lb,own,⟨di,Ω.size,Ω.os,Ω.tape,Ω.output,Ω.bm,Ω.jH,fun b' _ AW q=>jy b' (by rintro rfl;rw[h3]at AW;cases AW) q⟩,fun _ _ _ h=>h,?_,?_,?_,ho.setRow _ _⟩
 ·refine VR.I0 (sz:=sz) ((hf.append hk).mono di (fun _ _ _ h=>by cases h)) (by simp[hn,oR]) uq ⟨rfl,by simp[g',Gh.grow]⟩ (fun q v hq=>?_);rw[lj];show(if b=b then _ else _)=some v;rw[if_pos rfl];rcases cX q vs.length with χ|du
  ·rw[eo χ]at hq;rw[if_neg (by omega)];exact M8 q v hq
  ·rw[tL du]at hq;have xo:q-vs.length<us.length:=(fu.1 hq).1;rw[if_pos (by omega),<-Ig];exact hq
 ·refine hm.ER vL di (fun _ h=>h) (fun t' k' τ dh=>?_) (fun id b' τ aT=>?_) ?_ cC
  ·simp only[g',g1,Gh.grow];rw[if_neg (by omega)];exact dh
  ·have rF:b'≠b:=by rintro rfl;rw[h3]at aT;cases aT;exact τ rfl
   exact⟨rfl,Go.setRow_other w b b' _ rF,jy b' rF⟩
  ·refine⟨h0,b,cap,by simp[g',Gh.grow],uq,h3,⟨_,setRow_heap w b cur _ e _ vq,by rw[abH];exact h5⟩,fun q hq=>?_,fun m' x hx=>?_,h8⟩
   ·show(if b=b then _ else _)=none;rw[kF]at hq;rw[if_pos rfl,if_neg (by omega)];exact h6 q (by omega)
   ·simp only[g',g1,Gh.grow]at hx;split at hx
    ·rename_i h;omega
    ·have:=h7 m' x hx;omega
 ·exact hl.bm di fun d b' aT=>by
   have rF:b'≠b:=by rintro rfl;rw[h3]at aT;cases aT
   exact⟨rfl,Go.setRow_other w b b' _ rF,jy b' rF⟩
theorem Jr{ag:Bool}{sz:Nat}{v:AV}(h:shaped ag sz v=true):v.cells.length=sz:=by cases v<;>simp_all [shaped,AV.cells,AV.one]
theorem Qv(hm:a_ g own LC mem w)(hl:cx g lb own loc w)(ho:bT base own w){x y:AV}{xv yv:Value}(hx:VR g lb x xv)(hy:VR g lb y yv)
  {t ty e:TypeId} {i:TypeInfo} {z:Value} (ht:P.underlying t=some (.slice e)) (hi:P.info? e=some i) (hz:i.zero=some z) (kQ:z.cells.size=i.size)
  {ag:Bool} {v:AV} {m':Mem} (hr:gA mem ag i.size i.bytes e x y=some (v,m')):
  ∃(xr:Value) (w':World),(Builtin.append_ #[t,t] ty #[xv,yv]).run P w= .ok xr w'/\h_ base LC g lb own loc w v none m' xr w':=by
 unfold gA at hr;split at hr
 ·rename_i c l c' m;split at hr
  ·rename_i je;simp only[dW,dS,decide_eq_true_eq]at je;obtain⟨⟨⟨⟨mG,nZ⟩,h0⟩,vn⟩,hlen⟩:=je;have Nv:∀e∈m,e.cells.length=i.size:=fun e he=>Jr (mG e he);have UJ:∀e∈l,e.cells.length=i.size:=fun e he=>Jr (nZ e he);by_cases rL:m=[]
   ·subst rL;have hv:v= .list c l/\m'=mem:=by cases c<;>simp only[bc,az]at hr<;>exact⟨hr.1.symm,hr.2.symm⟩
    obtain⟨rfl,rfl⟩:=hv;refine⟨xv,w,?_,h_.pure hm hl ho hx⟩;have N7:∃a cp,yv= .slice a 0 cp:=by
     cases hy with
     |iS=>exact⟨_,_,rfl⟩
     |iw=>exact⟨_,_,rfl⟩
     |list _ _ _ b o sz n cap xs hn=>simp at hn;subst hn;exact⟨_,_,rfl⟩
    obtain⟨a,cp,rfl⟩:=N7;have DR:∃a n cp,xv= .slice a n cp/\n<=cp:=by
     cases hx with
     |iS=>exact⟨_,_,_,rfl,bA _⟩
     |iw=>exact⟨_,_,_,rfl,q_ _⟩
     |list _ _ _ b o sz n cap xs hn dP=>exact⟨_,_,_,rfl,dP⟩
    obtain⟨a',n,dX,rfl,hle⟩:=DR;cases a<;>cases a'<;>simp[Builtin.append_,run_underlying ht,sizeOf,typeInfo,hi,Builtin.lenOf,Builtin.firstCells,loadCells,loadCellsFrom,hle,storeCells]
   ·have Ba:0<m.length:=by cases m with|nil=>exact absurd rfl rL|cons=>simp
    obtain⟨yb,yo,tE,us,rfl,-,-,lv,Na⟩:=hy.flat Nv rL;have sV:∀j u,us[j]?=some u->w.cell? ((⟨yb,yo,none⟩:Addr).add j)=some u:=fun j u hj=>by rw[Addr.add_mid];exact hm.im _ _ _ (Na j u hj)
    have xf:=lv.ν hm;have vB:((l.length+m.length:Nat):Int)<=9223372036854775807:=by omega
    cases c with
    |any=>
     cases m with
     |nil=>exact absurd rfl rL
     |cons=>cases hr
    |full=>
     have jz:v= .list (.own mem.ε.length) (l++m.map mem.ν)/\m'=mem.push (.front (l.length+m.length) i.size e):=by
      cases m with
      |nil=>exact absurd rfl rL
      |cons=>simp only[bc,az]at hr;exact⟨hr.1.symm,hr.2.symm⟩
     obtain⟨rfl,rfl⟩:=jz;have n_:∀k x,g.rows mem.ε.length k=some x->k<l.length+m.length:=fun k x hx=>absurd (hm.nu _ _ _ hx) (B6 _);have jx:g.mb mem.ε.length=none:=by
      cases hx:g.mb mem.ε.length with
      |none=>rfl
      |some b=>exact absurd (hm.ju _ _ hx) (B6 _)
     by_cases hle:l=[]
     ·subst hle;have DR:(xv= .slice none 0 0)\/(∃ad,xv= .slice (some ad) 0 0):=by
       cases hx with
       |iw _ _ ad cap hc=>
        rcases hc with hc|⟨_,hc⟩
        ·cases hc
        ·exact .inr ⟨ad,by rw[hc]⟩
       |list _ _ _ b o sz n cap xs hn dP hc=>simp at hn;subst hn;exact .inr ⟨⟨b,o,none⟩,by simp only[mV]at hc;subst hc;rfl⟩
      simp only[eI,lj,bG]at vn vB n_⊢;rcases DR with rfl|⟨ad,rfl⟩
      ·refine⟨_,_,run_append_nil (P:=P) w t ty e i z ht hi hz ⟨yb,yo,none⟩ m.length tE us lv.1 sV Ba vB (by omega),?_⟩;have:=AS (m':=mem.push (.front m.length i.size e)) hm hl ho (rest:=Builtin.zeroCells z.cells (grownCap w m.length 0 e-m.length)) xf (by simp) h0 (grownCap_ge w m.length 0 e) (by rw[size_zeroCells,kQ]) n_ jx (.inl ⟨rfl,rfl⟩);exact this
      ·have hg:=run_append_grow (P:=P) w t ty e i z ht hi hz ad 0 0 [] (by simp) (by simp) ⟨yb,yo,none⟩ m.length tE us lv.1 sV (by omega) (by omega) (growslice_fits (by omega) (by simpa using vn));refine⟨_,_,hg,?_⟩;simp only[lj];have:=AS (m':=mem.push (.front m.length i.size e)) hm hl ho (rest:=Builtin.zeroCells z.cells (grownCap w m.length 0 e-m.length)) xf (by simp) h0 (grownCap_ge w m.length 0 e) (by rw[size_zeroCells,kQ]) n_ jx (.inl ⟨rfl,rfl⟩);simpa using this
     ·obtain⟨b,o,cap,vs,rfl,-,hc,mF,nW⟩:=hx.flat UJ hle;simp only[mV]at hc;subst hc;have holds:∀j u,vs[j]?=some u->w.cell? ((⟨b,o,none⟩:Addr).add j)=some u:=fun j u hj=>by rw[Addr.add_mid];exact hm.im _ _ _ (nW j u hj)
      have hg:=run_append_grow (P:=P) w t ty e i z ht hi hz ⟨b,o,none⟩ l.length l.length vs mF.1 holds ⟨yb,yo,none⟩ m.length tE us lv.1 sV (by omega) vB (growslice_fits (by omega) vn);refine⟨_,_,hg,?_⟩;have:=AS (m':=mem.push (.front (l.length+m.length) i.size e)) hm hl ho (rest:=Builtin.zeroCells z.cells (grownCap w (l.length+m.length) l.length e-(l.length+m.length))) (mF.append xf) (by simp) h0 (grownCap_ge w _ _ e) (by rw[size_zeroCells,kQ]) n_ jx (.inl ⟨rfl,rfl⟩);simpa using this
    |nil=>
     have jz:v= .list (.own mem.ε.length) (l++m.map mem.ν)/\m'=mem.push (.front (l.length+m.length) i.size e):=by
      cases m with
      |nil=>exact absurd rfl rL
      |cons=>simp only[bc,az]at hr;exact⟨hr.1.symm,hr.2.symm⟩
     obtain⟨rfl,rfl⟩:=jz;have n_:∀k x,g.rows mem.ε.length k=some x->k<l.length+m.length:=fun k x hx=>absurd (hm.nu _ _ _ hx) (B6 _);have jx:g.mb mem.ε.length=none:=by
      cases hx:g.mb mem.ε.length with
      |none=>rfl
      |some b=>exact absurd (hm.ju _ _ hx) (B6 _)
     obtain⟨rfl,rfl⟩:l=[]/\xv= .slice none 0 0:=by
      cases hx with
      |iS=>exact⟨rfl,rfl⟩
      |iw _ _ a cap hc=>rcases hc with hc|⟨hc,_⟩<;>cases hc
      |list _ _ _ b o sz n cap xs hn dP hc=>exact hc.elim
     simp only[eI,lj,bG]at vn vB n_⊢;refine⟨_,_,run_append_nil (P:=P) w t ty e i z ht hi hz ⟨yb,yo,none⟩ m.length tE us lv.1 sV Ba vB (by omega),?_⟩;exact AS (m':=mem.push (.front m.length i.size e)) hm hl ho (rest:=Builtin.zeroCells z.cells (grownCap w m.length 0 e-m.length)) xf (by simp) h0 (grownCap_ge w m.length 0 e) (by rw[size_zeroCells,kQ]) n_ jx (.inl ⟨rfl,rfl⟩)
    |own tg=>
     have jz:mem.ε[tg]?=some (.front l.length i.size e)/\v= .list (.own tg) (l++m.map mem.ν)/\m'=mem.put tg (.front (l.length+m.length) i.size e) true:=by
      cases m with
      |nil=>exact absurd rfl rL
      |cons a m=>
       simp only[]at hr
       split at hr
       ·rename_i gN;split at hr
        ·rename_i hc;obtain⟨rfl,rfl,rfl⟩:=hc;simp only[bc,az]at hr;exact⟨gN,hr.1.symm,hr.2.symm⟩
        ·cases hr
       ·cases hr
     obtain⟨gN,rfl,rfl⟩:=jz;have vL:tg<mem.ε.length:=(fu.1 gN).1;obtain⟨-,b1,akC,qC,abN,ak0,⟨cur,vq,Um⟩,akT,Dq,jx⟩:=hm.blk tg _ gN;by_cases hle:l=[]
     ·subst hle;cases hx with
      |iw _ _ a cap hc=>rcases hc with hc|⟨hc,_⟩<;>cases hc
      |list _ _ _ b o sz n cap xs hn dP hc=>
       simp at hn;subst hn
       obtain⟨rfl,iu⟩:=hc;simp only[eI]at qC;rw[iu]at qC;simp only[bc,az]at qC;obtain⟨rfl,rfl⟩:=qC;simp only[eI,lj,bG]at vn vB Dq gN abN⊢;by_cases uq:m.length<=cap
       ·obtain⟨sP,oU⟩:=Xv hm hl ho (FR.nil i.size) xf (by simp) (by simp) Ba (by omega) gN iu (by simp) vq;simp only[alb,lj,bG]at sP oU;have hg:=run_append_room (P:=P) w t ty e i ht hi b 0 cap cur vq ⟨yb,yo,none⟩ m.length tE us lv.1 sV lv.2.2.1 (by omega) (by omega);simp only[lj,alb]at hg;have he:arr cur 0 us=(List.take 0 cur.toList++us++List.drop us.length cur.toList).toArray:=by simp[arr]
        rw[<-he]at hg;exact⟨_,_,hg,oU⟩
       ·have hg:=run_append_grow (P:=P) w t ty e i z ht hi hz ⟨b,0,none⟩ 0 cap [] (by simp) (by simp) ⟨yb,yo,none⟩ m.length tE us lv.1 sV (by omega) (by omega) (growslice_fits (by omega) (by simpa using vn));refine⟨_,_,hg,?_⟩;simp only[lj];have:=AS (m':=mem.put tg (.front m.length i.size e) true) hm hl ho (rest:=Builtin.zeroCells z.cells (grownCap w m.length cap e-m.length)) xf (by simp) h0 (grownCap_ge w m.length cap e) (by rw[size_zeroCells,kQ]) (fun k x hk=>by have:=Dq k x hk;omega) jx (.inr ⟨vL,rfl⟩);simpa using this
     ·obtain⟨b,o,cap,vs,rfl,-,hc,mF,nW⟩:=hx.flat UJ hle;obtain⟨rfl,iu⟩:=hc;rw[iu]at qC;simp only[bc,az]at qC;obtain⟨rfl,rfl⟩:=qC;by_cases uq:l.length+m.length<=cap
      ·obtain⟨sP,oU⟩:=Xv hm hl ho mF xf rfl (by simp) Ba uq gN iu (fun q v hq=>by simpa using nW q v hq) vq;have hg:=run_append_room (P:=P) w t ty e i ht hi b l.length cap cur vq ⟨yb,yo,none⟩ m.length tE us lv.1 sV lv.2.2.1 uq sP;exact⟨_,_,hg,oU⟩
      ·have holds:∀j u,vs[j]?=some u->w.cell? ((⟨b,0,none⟩:Addr).add j)=some u:=fun j u hj=>by rw[Addr.add_mid];exact hm.im _ _ _ (nW j u hj)
       have hg:=run_append_grow (P:=P) w t ty e i z ht hi hz ⟨b,0,none⟩ l.length cap vs mF.1 holds ⟨yb,yo,none⟩ m.length tE us lv.1 sV (by omega) vB (growslice_fits (by omega) vn);refine⟨_,_,hg,?_⟩;have:=AS (m':=mem.put tg (.front (l.length+m.length) i.size e) true) hm hl ho (rest:=Builtin.zeroCells z.cells (grownCap w (l.length+m.length) cap e-(l.length+m.length))) (mF.append xf) (by simp) h0 (grownCap_ge w _ _ e) (by rw[size_zeroCells,kQ]) (fun k x hk=>by have:=Dq k x hk;omega) jx (.inr ⟨vL,rfl⟩);simpa using this
  ·cases hr
 ·cases hr
end
section
variable{P:Program}{g:Gh}{lb:LB}{w:World}
theorem Wr{a b:List UInt8}(h:a.map UInt8.toNat=b.map UInt8.toNat):a=b:=by
 induction a generalizing b with
 |nil=>cases b with
  |nil=>rfl
  |cons=>simp at h
 |cons x a ih=>cases b with
  |nil=>simp at h
  |cons y b=>
   simp only[aA,List.cons.injEq]at h
   rw[UInt8.toNat_inj.1 h.1,ih h.2]
theorem af5(a b:List UInt8):xI (a.map UInt8.toNat) (b.map UInt8.toNat)=Op.bytesLess a b:=by
 induction a generalizing b with
 |nil=>cases b<;>rfl
 |cons x a ih=>
  cases b with
  |nil=>rfl
  |cons y b=>
   simp only[aA,xI,Op.bytesLess,ih]
   congr 1;congr 1;by_cases h:x=y
   ·subst h;simp
   ·have:x.toNat≠y.toNat:=fun e=>h (UInt8.toNat_inj.1 e);simp[h,this]
theorem PU{a b:ByteArray}{s t:List Nat}(ha:a.data.toList.map UInt8.toNat=s)(hb:b.data.toList.map UInt8.toNat=t):(a.toList==b.toList)=decide (s=t):=by
 rw[ByteArray.toList_eq,ByteArray.toList_eq];subst ha hb;by_cases h:a.data.toList=b.data.toList
 ·rw[h];simp
 ·have h2:a.data.toList.map UInt8.toNat≠b.data.toList.map UInt8.toNat:=fun e=>h (Wr e);rw[decide_eq_false h2];exact beq_eq_false_iff_ne.2 h
theorem EJ{a:ByteArray}{s:List Nat}(ha:a.data.toList.map UInt8.toNat=s):a.size=s.length:=by subst ha;simp
theorem YC{op:BinOp}{k:IntKind}{a b:Int}{v:AV}(h:iC op k a b=some v):
  ∃x,(match op with
   | .add| .sub| .mul=>Op.intArith op k a b
   | .quo| .rem=>Op.intDiv op k a b
   | .and| .or| .xor| .andNot=>Op.intBits op k a b
   |_=>Op.intCmp op a b).run P w= .ok x w/\VR g lb v x:=by
 cases op<;>simp only[iC]at h
 case quo=>
  split at h
  ·cases h
  ·rename_i hb;cases h;exact⟨_,by simp[Op.intDiv,hb],.int _ _ _⟩
 case rem=>
  split at h
  ·cases h
  ·rename_i hb;cases h;exact⟨_,by simp[Op.intDiv,hb],.int _ _ _⟩
 all_goals first|(cases h;done)|(cases h;first|exact⟨_,rfl,.int _ _ _⟩|exact⟨_,rfl,.bool _ _⟩)
theorem YD{op:BinOp}{a b:ByteArray}{s t:List Nat}{v:AV}(ha:a.data.toList.map UInt8.toNat=s)(hb:b.data.toList.map UInt8.toNat=t)(h:cA op s t=some v):
  ∃x,(Op.stringOp op a b).run P w= .ok x w/\VR g lb v x:=by
 have he:=PU ha hb;have hl:xI s t=Op.bytesLess a.toList b.toList:=by rw[ByteArray.toList_eq,ByteArray.toList_eq,<-af5,ha,hb]
 have hs:(a.size+b.size:Nat)=s.length+t.length:=by rw[EJ ha,EJ hb]
 cases op<;>simp only[cA]at h
 case add=>
  split at h
  ·cases h
  ·rename_i hc;cases h;rw[<-hs]at hc;refine⟨.string (a++b),by simp only[Op.stringOp,if_neg hc];rfl,.str _ _ _ ?_⟩;rw[<-ha,<-hb];simp
 all_goals first|(cases h;done)|(cases h;exact⟨_,by simp only[Op.stringOp,he,hl];rfl,.bool _ _⟩)
theorem run_equalIn_bool(d:Nat){t:TypeId}(hu:P.underlying t=some .bool)(a b:Bool):(Op.equalIn (d+1) t (.bool a) (.bool b)).run P w= .ok (a==b) w:=by simp only[Op.equalIn,Sem.run_bind,run_underlying hu,Result.andThen_ok];rfl
theorem YB{op:BinOp}{t:TypeId}{x y:AV}{xv yv:Value}{v:AV}(hx:VR g lb x xv)(hy:VR g lb y yv)(h:ib op x y=some v):
  ∃r,(binOp op t xv yv).run P w= .ok r w/\VR g lb v r:=by
 unfold ib at h;split at h
 ·rename_i k a k' b;cases hx;cases hy;cases op
  case shl=>
   dsimp only at h
   split at h
   ·cases h
   ·rename_i hc;cases h;exact⟨_,by simp[binOp,Op.shift,hc],.int _ _ _⟩
  case shr=>
   dsimp only at h
   split at h
   ·cases h
   ·rename_i hc;cases h;exact⟨_,by simp[binOp,Op.shift,hc],.int _ _ _⟩
  all_goals
   dsimp only at h;split at h
   ·rename_i hk;subst hk;obtain⟨r,h1,h2⟩:=YC (P:=P) (w:=w) (g:=g) (lb:=lb) h;exact⟨r,by simpa[binOp]using h1,h2⟩
   ·cases h
 ·cases hx;cases hy;rename_i ha _ aT;obtain⟨r,h1,h2⟩:=YD (P:=P) (w:=w) (g:=g) (lb:=lb) ha aT h;exact⟨r,by cases op<;>simpa[binOp]using h1,h2⟩
 ·cases h
theorem YE{op:UnOp}{x:AV}{xv:Value}{v:AV}(hx:VR g lb x xv)(h:iL op x=some v):∃r,(Op.unary op xv).run P w= .ok r w/\VR g lb v r:=by
 unfold iL at h;split at h
 ·cases hx;cases h;exact⟨_,rfl,.int _ _ _⟩
 ·cases hx;cases h;exact⟨_,rfl,.bool _ _⟩
 ·cases h
theorem WO{p:AV}{x:Value}{off:Nat}{v:AV}(hx:VR g lb p x)(h:iH p off=some v):∃a:Addr,x= .pointer (some a)/\VR g lb v (.pointer (some (a.add off))):=by
 unfold iH at h;split at h
 ·cases hx;rename_i b hb;cases h;exact⟨_,rfl,by rw[Addr.add_mid];exact .aj _ _ _ _ _ hb⟩
 ·cases hx;rename_i b hb;cases h;exact⟨_,rfl,by rw[Addr.add_mid];exact .μ _ _ _ _ hb⟩
 ·split at h
  ·rename_i l hle;cases hx;rename_i b o xs cC hv;cases h;refine⟨_,rfl,?_⟩;rw[Addr.add_mid];refine .ref _ _ b (o+off) (fun i=>xs (off+i)) (fun i hi=>?_) (fun i hi=>?_)
   ·have:=cC (off+i) (by simp at hi;omega);rwa[<-qc]at this
   ·simp only[xZ];exact hv (off+i) (by simp at hi;omega)
  ·cases h
 ·cases h
theorem Kf{ag:Bool}{l:List AV}{a:Array Value}{v:AV}(hp:PW (VR g lb) l a.toList)(h1:∀v∈a.toList,v.oneCell'=true)(h:gL ag l=some v):
  (ag=true->VR g lb v (.agg a))/\(ag=false->∃x,a= #[x]/\VR g lb v x):=by
 have hlen:l.length=a.size:=by simpa using hp.1
 unfold gL at h;split at h
 ·rename_i lJ;cases h;refine⟨fun _=> .agg _ _ _ hlen.symm (fun i hi=>h1 _ (by simp)) (fun i hi ab=>by have:=hp.2 i hi (by simpa using ab);rwa[ml]at this),fun hf=>by rw[lJ]at hf;cases hf⟩
 ·rename_i lJ;unfold single at h;split at h
  ·cases h;refine⟨fun hf=>absurd hf lJ,fun _=>?_⟩;obtain⟨xs⟩:=a
   match xs,hlen with
   |[x],_=>exact⟨x,rfl,hp.2 0 (by simp) (by simp)⟩
  ·cases h
theorem WR{l:List AV}{a:Array Value}{t:TypeId}{off n:Nat}{ag:Bool}{v:AV}(hl:VR g lb (.agg l) (.agg a))(hle:off+n<=l.length)
  (lJ:(isAgg t).run P w= .ok ag w) (aJ:(sizeOf t).run P w= .ok n w) (h:gL ag ((l.drop off).take n)=some v):∃r,(part t a off).run P w= .ok r w/\VR g lb v r:=by
 cases hl with
 |agg _ _ _ hs h1 hv=>
 have oT:PW (VR g lb) l a.toList:=⟨by simpa using hs.symm,fun i hi ab=>by simpa using hv i hi (by simpa using ab)⟩
 have hp:PW (VR g lb) ((l.drop off).take n) (a.extract off (off+n)).toList:=by have:=(oT.drop off).take n;simpa[alc,Qd]using this
 have kr:∀v∈(a.extract off (off+n)).toList,v.oneCell'=true:=by
  intro v nj;have:v∈a.toList:=by rw[alc,Qd]at nj;exact tM (pn nj)
  obtain⟨i,hi,rfl⟩:=pj.1 this;simpa using h1 i (by simpa using hi)
 obtain⟨k1,k2⟩:=Kf hp kr h;cases ag with
 |true=>exact⟨_,by simp[part,lJ,aJ],k1 rfl⟩
 |false=>
  obtain⟨x,hx,hvx⟩:=k2 rfl
  have Vh:(a.extract off (off+n)).size=1:=by rw[hx];rfl
  have hn:n=1:=by simp at Vh;omega
  subst hn;have kN:a[off]?=some x:=by
   have h0:=congrArg (fun z:Array Value=>z[0]?) hx;have χ:off<a.size:=by omega
   simp only[Array.getElem?_extract]at h0;rw[if_pos (by omega)]at h0;simpa using h0
  exact⟨x,by simp[part,lJ,kN],hvx⟩
def NK.fits(P:Program)(t:TypeId):NK->Value->Prop
 | .ptr,v=>(∃e,P.underlying t=some (.pointer e))/\v= .pointer none
 | .slice,v=>(∃e,P.underlying t=some (.slice e))/\v= .slice none 0 0
 | .fn,v=>(∃a b c,P.underlying t=some (.func a b c))/\v= .nilFunc
 | .iface,v=>(∃m,P.underlying t=some (.interface m))/\v= .nilIface
 | .map,v=>(∃k e,P.underlying t=some (.map k e))/\v= .map none
theorem adh{t:TypeId}{k:NK}{x:AV}{xv O6:Value}{r:Bool}(hx:VR g lb x xv)(h:isNil k x=some r)(ht:k.fits P t O6):
  (Op.equal t xv O6).run P w= .ok r w:=by
 have key:∀d,(Op.equalIn (d+1) t xv O6).run P w= .ok r w:=by
  intro d;unfold isNil at h;split at h<;>first|(cases h;done)|skip
  all_goals cases h
  all_goals first
   |(obtain⟨⟨e,hu⟩,rfl⟩:=ht;cases hx<;>first|(simp only[Op.equalIn,Sem.run_bind,run_underlying hu,Result.andThen_ok];rfl)|(exfalso;simp_all [mV];done))
   |(obtain⟨⟨e,e',hu⟩,rfl⟩:=ht;cases hx<;>(simp only[Op.equalIn,Sem.run_bind,run_underlying hu,Result.andThen_ok];rfl))
   |(obtain⟨⟨e,e',e'',hu⟩,rfl⟩:=ht;cases hx<;>(simp only[Op.equalIn,Sem.run_bind,run_underlying hu,Result.andThen_ok];rfl))
 exact key 9999
end
def E_:Value->Option AV
 | .bool b=>some (.bool b)
 | .int k n=>some (.int k n)
 | .string s=>some (.str (s.data.toList.map UInt8.toNat))
 | .pointer none=>some .iU
 | .slice none 0 0=>some (.list .nil [])
 | .map none=>some .gY
 | .nilFunc=>some .fV
 | .nilIface=>some .gx
 |_=>none
def E':List Value->Option (List AV)
 |[]=>some []
 |v::l=>match E_ v,E' l with
  |some a,some m=>some (a::m)
  |_,_=>none
def Cc:Value->Option AV
 | .agg cs=>(E' cs.toList).map .agg
 | .tuple a=>if a.size=0 then some .undef else none
 | .func (.func f) a b=>if a.size=0/\b.size=0 then some (.fn (.func f) [] [])else none
 |v=>E_ v
def cB:Operand->Option bw
 | .tmp t=>some (.t t)
 | .const v=>(Cc v).map .c
 | .global g=>some (.g g)
 | .func f=>some (.c (.fn (.func f) [] []))
def wE:List Operand->Option (List bw)
 |[]=>some []
 |x::l=>match cB x,wE l with
  |some a,some m=>some (a::m)
  |_,_=>none
section
variable(P:Program)
def kX(t:TypeId):Option Nat:=match P.info? t with
 |some i=>if 0<i.size then some i.size else none
 |none=>none
def wi(t:TypeId):Option Bool:=match P.underlying t with
 |some (.struct _)=>some true
 |some (.array _ _)=>some true
 |some _=>some false
 |none=>none
def uQ(t:TypeId):Option (List AV):=match P.info? t with
 |some i=>match i.zero with
  |some z=>match Cc z with
   |some v=>if 0<i.size/\z.cells.size=i.size/\v.cells.length=i.size then some v.cells else none
   |none=>none
  |none=>none
 |none=>none
def X7(t:TypeId):Option AV:=match P.info? t with
 |some i=>match i.zero with
  |some z=>Cc z
  |none=>none
 |none=>none
def JG(s:TypeId)(f:Nat):Option (Nat×TypeId):=match P.underlying s with
 |some (.struct fields)=>match fields[f]? with
  |some fd=>some (fd.offset,fd.type)
  |none=>none
 |_=>none
def places:List Field->Option (List (Nat×Nat))
 |[]=>some []
 |f::l=>match P.info? f.type,places l with
  |some i,some m=>some ((f.offset,i.size)::m)
  |_,_=>none
def Ar(fields:Array Field):List (Nat×Operand)->Option (List (Nat×Nat×bw))
 |[]=>some []
 |(i,x)::l=>match fields[i]?,cB x,Ar fields l with
  |some fd,some x',some l'=>match kX P fd.type with
   |some n=>some ((fd.offset,n,x')::l')
   |none=>none
  |_,_,_=>none
def Aq(sz:Nat):List (Nat×Operand)->Option (List (Nat×Nat×bw))
 |[]=>some []
 |(i,x)::l=>match cB x,Aq sz l with
  |some x',some l'=>some ((i*sz,sz,x')::l')
  |_,_=>none
def FJ:Nat->List (Nat×Operand)->Option (List Operand)
 |_,[]=>some []
 |k,(i,x)::l=>if i=k then(FJ (k+1) l).map (x::·)else none
def pW(t:TypeId):Option KK:=match P.underlying t with
 |some (.int _)=>some .int
 |some .string=>some .str
 |some .bool=>some .bool
 |_=>none
def F1:Nat->List Field->Option (List KK)
 |_,[]=>some []
 |k,f::l=>match pW P f.type,kX P f.type,F1 (k+1) l with
  |some kk,some 1,some ks=>if f.name≠ "_" /\f.offset=k then some (kk::ks)else none
  |_,_,_=>none
def CL(t:TypeId):Option (List KK):=
 if P.eqGuardType P.depth t then none else
 match P.underlying t with
  |some (.struct fields)=>if P.stoodInHeld t then none else F1 P 0 fields.toList
  |some (.array n e)=>match pW P e,kX P e with
   |some kk,some 1=>some (List.replicate n kk)
   |_,_=>none
  |_=>none
def tV:Option Operand->Option (Option bw)
 |none=>some none
 |some x=>(cB x).map some
def O5:NK->Operand->Bool
 | .ptr,.const (.pointer none)=>true
 | .slice,.const (.slice none 0 0)=>true
 | .fn,.const .nilFunc=>true
 | .iface,.const .nilIface=>true
 | .map,.const (.map none)=>true
 |_,_=>false
def u9(k:NK)(op:BinOp)(x:bw)(y:Operand):Option AO:=
 if O5 k y then match op with
  | .eql=>some (.Ij false k x)
  | .neq=>some (.Ij true k x)
  |_=>none
 else none
def PZ(t:TypeId):Option TypeId:=match P.info? t with
 |some i=>match i.desc,i.zero,P.underlying t with
  | .named "strings.Builder" _,some (.agg ⟨[.pointer none,.slice none 0 0]⟩),some (.struct ⟨[_,fd]⟩)=>match P.underlying fd.type with
   |some (.slice e)=>some e
   |_=>none
  |_,_,_=>none
 |none=>none
def AB(bf:Nat->Bool):Option Nat->Bool
 |some d=>bf d
 |none=>false
def LN(bf:Nat->Bool):Option Nat->Bool
 |some d=>bf (d+1048576)
 |none=>false
def cQ(bf:Nat->Bool)(o:Oper):Option AO:=
 match o.op with
 | .move x=>(cB x).map .mv
 | .assign x=>(cB x).map .mv
 | .pick c a b=>match cB c,cB a,cB b with
  |some c,some a,some b=>some (.pick c a b)
  |_,_,_=>none
 | .alloc e=>match o.dst,uQ P e with
  |some d,some z=>match(if bf d then PZ P e else none)with
   |some be=>some (.abld e be)
   |none=>some (.alloc (bf d) z)
  |_,_=>none
 | .box e x=>match o.dst,kX P e,cB x with
  |some d,some n,some x=>some (.box (bf d) n x)
  |_,_,_=>none
 | .build t parts=>match uQ P t,P.underlying t with
  |some z,some (.struct fields)=>match places P fields.toList with
   |some _=>(Ar P fields parts.toList).map (.build z)
   |none=>none
  |some z,some (.array _ e)=>match kX P e with
   |some sz=>(Aq sz parts.toList).map (.build z)
   |none=>none
  |_,_=>none
 | .buildSlice t len parts=>match P.underlying t,FJ 0 parts.toList with
  |some (.slice e),some xs=>match kX P e,wi P e,uQ P e,wE xs with
   |some sz,some ag,some _,some wo=>if xs.length=len/\len*sz<=2^24 then some (.Ap ag sz wo)else none
   |_,_,_,_=>none
  |_,_=>none
 | .load t a=>match wi P t,kX P t,cB a with
  |some ag,some n,some a=>some (.ld ag n a)
  |_,_,_=>none
 | .store t a x=>match kX P t,cB a,cB x with
  |some n,some a,some x=>some (.st n a x)
  |_,_,_=>none
 | .nilCheck x=>(cB x).map .IX
 | .binOp op t x y _=>
  match P.underlying t,cB x,cB y with
  |some (.int _),some x',some y'=>some (.bin op x' y')
  |some .string,some x',some y'=>some (.bin op x' y')
  |some .bool,some x',some y'=>(match op with
    | .eql=>some (.CG false x' y')
    | .neq=>some (.CG true x' y')
    |_=>none)
  |some (.struct _),some x',some y'=>(match CL P t,op with
    |some ks,.eql=>some (.eqs false ks x' y')
    |some ks,.neq=>some (.eqs true ks x' y')
    |_,_=>none)
  |some (.array _ _),some x',some y'=>(match CL P t,op with
    |some ks,.eql=>some (.eqs false ks x' y')
    |some ks,.neq=>some (.eqs true ks x' y')
    |_,_=>none)
  |some (.pointer _),some x',some _=>u9 .ptr op x' y
  |some (.slice _),some x',some _=>u9 .slice op x' y
  |some (.func _ _ _),some x',some _=>u9 .fn op x' y
  |some (.interface _),some x',some _=>u9 .iface op x' y
  |some (.map _ _),some x',some _=>u9 .map op x' y
  |_,_,_=>none
 | .makeSlice t n c=>match P.underlying t,cB n,cB c with
  |some (.slice e),some n,some c=>match uQ P e,P.info? e with
   |some z,some i=>some (.mkslc (if(wi P e).getD true then z.length else 0) z i.bytes n c)
   |_,_=>none
  |_,_,_=>none
 | .unOp op _ x=>(cB x).map (.un op)
 | .convert s d x=>match P.underlying s,P.underlying d,cB x with
  |some _,some (.int k),some x=>some (.conv (.int k) x)
  |some .string,some .string,some x=>some (.conv .same x)
  |some (.int _),some .string,some x=>some (.conv .char x)
  |_,_,_=>none
 | .makeInterface t x=>match P.underlying t,cB x with
  |some (.interface _),_=>none
  |some _,some x=>some (.OU t x)
  |_,_=>none
 | .makeFunc (.func f) a b=>match wE a.toList,wE b.toList with
  |some a,some b=>some (.zs (.func f) a b)
  |_,_=>none
 | .fieldAddr s x f=>match JG P s f,cB x with
  |some (off,t),some x=>match kX P t with
   |some _=>some (.fa off x)
   |none=>none
  |_,_=>none
 | .field s x f=>match JG P s f,cB x with
  |some (off,t),some x=>match kX P t,wi P t with
   |some n,some ag=>some (.CM ag off n x)
   |_,_=>none
  |_,_=>none
 | .indexAddr t x i=>match P.underlying t,cB x,cB i with
  |some (.slice e),some x,some i=>(kX P e).map fun sz=> .ia sz x i
  |some (.array n e),some x,some i=>(kX P e).map fun sz=> .Oe n sz x i
  |_,_,_=>none
 | .index t x i=>match P.underlying t,cB x,cB i with
  |some (.array n e),some x,some i=>match kX P e,wi P e with
   |some sz,some ag=>some (.Oh ag n sz x i)
   |_,_=>none
  |some .string,some x,some i=>some (.qL x i)
  |_,_,_=>none
 | .lookup t m k ok=>match P.underlying t,cB m,cB k with
  |some (.map kt e),some m,some k=>match X7 P e,pW P kt with
   |some z,some kk=>some (.lookup kk z ok m k)
   |_,_=>none
  |_,_,_=>none
 | .mapUpdate t m k v=>match P.underlying t,cB m,cB k,cB v with
  |some (.map kt _),some m,some k,some v=>(pW P kt).map fun kk=> .mapup kk m k v
  |_,_,_,_=>none
 | .insert t m k v=>match P.underlying t,cB m,cB k,cB v with
  |some (.map kt _),some m,some k,some v=>(pW P kt).map fun kk=> .mapup kk m k v
  |_,_,_,_=>none
 | .makeMap _ none=>some .mkmap
 | .makeMap t (some (.const (.int _ _)))=>match P.underlying t with
  |some (.map _ _)=>some .mkmap
  |_=>none
 | .slice t x lo hi mx=>match P.underlying t,cB x,tV lo,tV hi,tV mx with
  |some (.slice e),some x,some lo,some hi,some mx=>if mx.isSome&& !hi.isSome then none else(kX P e).map fun sz=> .EH sz x lo hi mx
  |some .string,some x,some lo,some hi,some none=>some (.Js x lo hi)
  |_,_,_,_,_=>none
 | .extract x k=>(cB x).map fun x=> .ext x k
 | .call c=>match c.callee with
  | .value f=>match cB f,wE c.args.toList with
   |some f',some args=>some (if LN bf o.dst then(match f with| .func k=> .call (.c (.fn (.methodOf k "") [] [])) args|_=> .bad)else if AB bf o.dst then .callz f' args else .call f' args)
   |_,_=>none
  | .builtin .append=>match c.args.toList,c.argTypes.toList with
   |[x,y],[t,t']=>match P.underlying t,cB x,cB y with
    |some (.slice e),some x,some y=>match P.info? e,wi P e,uQ P e with
     |some i,some ag,some _=>if t=t' then some (if AB bf o.dst then .appm ag i.size i.bytes e x y else .app ag i.size i.bytes e x y)else none
     |_,_,_=>none
    |_,_,_=>none
   |_,_=>none
  | .builtin .len=>match c.args.toList,c.argTypes.toList with
   |[x],[t]=>match P.underlying t,cB x with
    |some .string,some x=>some (.lens x)
    |some (.slice _),some x=>some (.len x)
    |some (.map _ _),some x=>some (.D3 x)
    |some (.array n _),some _=>some (.OI n)
    |_,_=>none
   |_,_=>none
  | .builtin .delete=>match c.args.toList,c.argTypes.toList with
   |[m,k],t::_=>match P.underlying t,cB m,cB k with
    |some (.map kt _),some m,some k=>(pW P kt).map fun kk=> .del kk m k
    |_,_,_=>none
   |_,_=>none
  | .builtin .copy=>match c.args.toList,c.argTypes.toList with
   |[x,y],t::_=>match P.underlying t,cB x,cB y with
    |some (.slice e),some x,some y=>(kX P e).map fun sz=> .cpy sz x y
    |_,_,_=>none
   |_,_=>none
  | .builtin .clear=>match c.args.toList,c.argTypes.toList with
   |[x],[t]=>match P.underlying t,cB x with
    |some (.slice e),some x=>(uQ P e).map fun z=> .clr z x
    |_,_=>none
   |_,_=>none
  | .builtin .max=>match c.args.toList with
   |[x,y]=>match cB x,cB y with
    |some x,some y=>some (.max x y)
    |_,_=>none
   |_=>none
  | .builtin .min=>match c.args.toList with
   |[x,y]=>match cB x,cB y with
    |some x,some y=>some (.min x y)
    |_,_=>none
   |_=>none
  |_=>none
 | .range t x=>match P.underlying t,cB x with
  |some .string,some x=>some (.tB x)
  |_,_=>none
 | .next x true=>(cB x).map .D'
 |_=>none
def Sd(bf:Nat->Bool)(o:Oper):AO:=(cQ P bf o).getD .bad
end
section
variable{P:Program}{g:Gh}{lb:LB}
theorem Ql{v:Value}{a:AV}(h:E_ v=some a):VR g lb a v/\v.oneCell'=true:=by
 unfold E_ at h;split at h<;>first|(cases h;done)|skip
 all_goals(cases h;refine⟨?_,rfl⟩)
 ·exact .bool _ _
 ·exact .int _ _ _
 ·exact .str _ _ _ rfl
 ·exact .iU _
 ·exact .iS _
 ·exact .gY _
 ·exact .fV _
 ·exact .gx _
theorem YF{l:List Value}{m:List AV}(h:E' l=some m):PW (VR g lb) m l/\∀v∈l,v.oneCell'=true:=by
 induction l generalizing m with
 |nil=>cases h;exact⟨PW.nil,by simp⟩
 |cons v l ih=>
  simp only[E']at h
  split at h
  ·rename_i a m' h1 h2;cases h;obtain⟨k1,k2⟩:=ih h2;obtain⟨k3,k4⟩:=Ql (g:=g) (lb:=lb) h1;exact⟨PW.cons k3 k1,by simp only[List.mem_cons,forall_eq_or_imp];exact⟨k4,k2⟩⟩
  ·cases h
theorem Kc{v:Value}{a:AV}(h:Cc v=some a):VR g lb a v:=by
 unfold Cc at h;split at h
 ·rename_i cs;simp only[bE]at h;obtain⟨l,hl,rfl⟩:=h;obtain⟨k1,k2⟩:=YF (g:=g) (lb:=lb) hl;exact .agg _ _ _ (by simpa using k1.1.symm) (fun i hi=>k2 _ (by simp)) (fun i hi ab=>by have:=k1.2 i hi (by simpa using ab);rwa[ml]at this)
 ·rename_i a;split at h
  ·rename_i h0;cases h;have:a= #[]:=Array.size_eq_zero_iff.1 h0;subst this;exact .undef _
  ·cases h
 ·rename_i f a b;split at h
  ·rename_i h0;cases h;refine .fn _ _ _ _ _ a b h0.1 h0.2 rfl (fun i hi=>by simp at hi) (fun i hi=>by simp at hi)
  ·cases h
 ·exact(Ql h).1
end
section
variable{P:Program}{base:Nat}{LC:eX}{g:Gh}{lb:LB}{own:OW}{loc:Nat->Option (Nat×θ)}{mem:Mem}{w:World}{bf:Nat->Bool}{ax:cu}
variable{ev:bw->AV}{a:Act}
def ra(P:Program)(base:Nat)(LC:eX)(g:Gh)(lb:LB)(own:OW)(loc:Nat->Option (Nat×θ))(w:World)(a:Act)(o:Oper)(v:AV)(u:kG)(m':Mem):Prop:=
 ∃x w',((execOp a.eval o).run P w= .ok (.value x) w'\/((execOp a.eval o).run P w= .ok .skip w'/\x=undef))/\h_ base LC g lb own loc w v u m' x w'
abbrev gI(P:Program)(bf:Nat->Bool)(base:Nat)(LC:eX)(g:Gh)(lb:LB)(own:OW)(loc:Nat->Option (Nat×θ))(mem:Mem)(w:World)(ax:cu)(ev:bw->AV)(a:Act)(o:Oper)(ao:AO)(v:AV)(u:kG)(m':Mem):Prop:=cQ P bf o=some ao->aH ev loc mem ax o.dst ao=some (v,u,m')->ra P base LC g lb own loc w a o v u m'
def eS(g:Gh)(lb:LB)(ev:bw->AV)(a:Act):Prop:=∀x x',cB x=some x'->VR g lb (ev x') (a.eval x)
theorem FU(ak:eS g lb ev a){l:List Operand}{m:List bw}(h:wE l=some m):PW (VR g lb) (m.map ev) (l.map a.eval):=by
 induction l generalizing m with
 |nil=>cases h;exact PW.nil
 |cons x l ih=>
  simp only[wE]at h
  split at h
  ·rename_i x' m' h1 h2;cases h;exact PW.cons (ak _ _ h1) (ih h2)
  ·cases h
theorem pa{t:TypeId}{n:Nat}(h:kX P t=some n):(sizeOf t).run P w= .ok n w/\0<n/\(P.info? t).map (·.size)=some n:=by
 unfold kX at h;split at h
 ·rename_i i hi;split at h
  ·rename_i h0;cases h;exact⟨by simp[sizeOf,typeInfo,hi],h0,by simp[hi]⟩
  ·cases h
 ·cases h
theorem JF{t:TypeId}{ag:Bool}(h:wi P t=some ag):(isAgg t).run P w= .ok ag w:=by
 unfold wi at h;split at h
 ·rename_i hu;cases h;simp[isAgg,run_underlying hu]
 ·rename_i hu;cases h;simp[isAgg,run_underlying hu]
 ·rename_i d h1 h2 hu;cases h;have hd:∀w:World,(isAgg t).run P w=(match d with| .struct _| .array _ _=>(pure true:Sem Bool)|_=>pure false).run P w:=fun w=>by simp only[isAgg,Sem.run_bind,run_underlying hu,Result.andThen_ok]
  rw[hd];cases d<;>first|rfl|(exact absurd rfl (h1 _))|(exact absurd rfl (h2 _ _))
 ·cases h
theorem zT{t:TypeId}{l:List AV}(h:uQ P t=some l):∃z i,P.info? t=some i/\i.zero=some z/\(zeroValue t).run P w= .ok z w/\z.cells.size=i.size/\l.length=i.size/\0<i.size∧
  PW (VR g lb) l z.cells.toList/\∀v∈z.cells.toList,v.oneCell'=true:=by
 unfold uQ at h;split at h
 ·rename_i i hi;split at h
  ·rename_i z hz;split at h
   ·rename_i v hv;split at h
    ·rename_i hc;cases h;have xw:=Kc (g:=g) (lb:=lb) hv;obtain⟨k1,k2,k3⟩:=xw.cells (by intro hn;rw[hn]at hc;simp at hc;omega);refine⟨z,i,hi,hz,by simp[zeroValue,typeInfo,hi,hz],hc.2.1,hc.2.2,hc.1,⟨by simpa using k1.symm,fun i hi ab=>?_⟩,fun u hu=>?_⟩
     ·have:=k2 i hi (by simpa using ab);rwa[ml]
     ·obtain⟨j,hj,rfl⟩:=pj.1 hu;have:=k3 j (by simpa using hj);rwa[ml]
    ·cases h
   ·cases h
  ·cases h
 ·cases h
theorem Jf{v:AV}{x:Value}(h:VR g lb v x)(hn:0<v.cells.length):PW (VR g lb) v.cells x.cells.toList/\∀u∈x.cells.toList,u.oneCell'=true:=by
 obtain⟨k1,k2,k3⟩:=h.cells (by intro h0;rw[h0]at hn;simp at hn);refine⟨⟨by simpa using k1.symm,fun i hi ab=>?_⟩,fun u hu=>?_⟩
 ·have:=k2 i hi (by simpa using ab);rwa[ml]
 ·obtain⟨j,hj,rfl⟩:=pj.1 hu;have:=k3 j (by simpa using hj);rwa[ml]
theorem LO(off:Nat):∀(vs:List Value) (k:Nat) (cs:Array Value),off+k+vs.length<=cs.size→
  ((vs.zipIdx k).foldl (fun cs (c,j)=>cs.setIfInBounds (off+j) c) cs).toList=cs.toList.take (off+k)++vs++cs.toList.drop (off+k+vs.length)
 |[],k,cs,_=>by simp
 |v::vs,k,cs,h=>by simp only[cE]at h;simp only[List.zipIdx_cons,List.foldl_cons];rw[LO off vs (k+1) (cs.setIfInBounds (off+k) v) (by simp;omega)];have:=Go.list_seg_step cs.toList (off+k) v vs (by simp;omega);simpa[Array.toList_setIfInBounds,qc,Nat.add_comm,Nat.add_left_comm]using this
theorem LK(ak:eS g lb ev a)(place:Nat->Option (Nat×Nat)):∀(parts:List (Nat×Operand)) (ps:List (Nat×Nat×bw)) (cs:List AV) (vs:Array Value) (r:List AV),
  parts.length=ps.length->(∀k (h:k<parts.length) (h':k<ps.length),place parts[k].1=some (ps[k].1,ps[k].2.1)/\cB parts[k].2=some ps[k].2.2/\0<ps[k].2.1)→
  PW (VR g lb) cs vs.toList->(∀v∈vs.toList,v.oneCell'=true)->dp ev ps cs=some r→
  ∃ws:Array Value,Instr.fill place vs (parts.map fun(i,x)=>(i,a.eval x))=some ws/\PW (VR g lb) r ws.toList/\∀v∈ws.toList,v.oneCell'=true
 |[],[],cs,vs,r,_,_,hp,h1,hr=>by cases hr;exact⟨vs,rfl,hp,h1⟩
 |[],_::_,_,_,_,hl,_,_,_,_=>by simp at hl
 |_::_,[],_,_,_,hl,_,_,_,_=>by simp at hl
 |(i,x)::parts,(off,size,x')::ps,cs,vs,r,hl,hk,hp,h1,hr=>by
  obtain⟨k1,k2,k3⟩:=hk 0 (by simp) (by simp);simp only[lE]at k1 k2 k3;simp only[dp]at hr;split at hr
  ·rename_i hc;obtain⟨eh,hle⟩:=hc;obtain⟨q1,q2⟩:=Jf (ak _ _ k2) (by omega);have aJ:(a.eval x).cells.size=size:=by have:=q1.1;simp at this;omega
   have Bf:vs.size=cs.length:=by have:=hp.1;simp at this;omega
   let tD:Array Value:=(a.eval x).cells.zipIdx.foldl (fun cs (c,j)=>cs.setIfInBounds (off+j) c) vs;have DN:tD.toList=vs.toList.take off++(a.eval x).cells.toList++vs.toList.drop (off+(a.eval x).cells.toList.length):=by have h:=LO off (a.eval x).cells.toList 0 vs (by simp only[wu,aJ,Bf];omega);simp only[qd]at h;rw[<-h];simp only[tD,<-ald,ale]
   have sW:PW (VR g lb) (dd cs off (ev x').cells) tD.toList:=by rw[DN];unfold dd;have hlen:=q1.1;rw[hlen];exact((hp.take off).append q1).append (hp.drop _)
   have kr:∀v∈tD.toList,v.oneCell'=true:=by
    rw[DN];intro v hv;rcases dE.1 hv with hv|hv
    ·rcases dE.1 hv with hv|hv
     ·exact h1 _ (pn hv)
     ·exact q2 _ hv
    ·exact h1 _ (tM hv)
   obtain⟨ws,e1,e2,e3⟩:=LK ak place parts ps _ tD r (by simpa using hl) (fun k h h'=>by have:=hk (k+1) (by simpa using h) (by simpa using h');simpa using this) sW kr hr;refine⟨ws,?_,e2,e3⟩;simp only[aA,Instr.fill,k1];rw[if_neg (by simp[aJ,Bf];omega)];exact e1
  ·cases hr
theorem aiZ{fs:List Field}{m:List (Nat×Nat)}(h:places P fs=some m):(fs.mapM fun f=>do pure (f.offset,<-sizeOf f.type):Sem (List (Nat×Nat))).run P w= .ok m w∧
  ∀(k:Nat) (fd:Field),fs[k]?=some fd->∃i,P.info? fd.type=some i/\m[k]?=some (fd.offset,i.size):=by
 induction fs generalizing m with
 |nil=>cases h;exact⟨rfl,by simp⟩
 |cons f fs ih=>
  simp only[places]at h
  split at h
  ·rename_i i m' hi hm;cases h;obtain⟨k1,k2⟩:=ih hm;refine⟨?_,fun k fd hk=>?_⟩
   ·have hs:(sizeOf f.type).run P w= .ok i.size w:=by simp[sizeOf,typeInfo,hi]
    simp only[List.mapM_cons,Sem.run_bind,hs,Result.andThen_ok,Sem.run_pure,k1]
   ·cases k with
    |zero=>simp at hk;subst hk;exact⟨i,hi,by simp⟩
    |succ k=>simpa using k2 k fd (by simpa using hk)
  ·cases h
theorem ZO{fields:Array Field}{parts:List (Nat×Operand)}{ps:List (Nat×Nat×bw)}(h:Ar P fields parts=some ps):
  parts.length=ps.length/\∀k (h:k<parts.length) (h':k<ps.length),(∃fd,fields[parts[k].1]?=some fd/\fd.offset=ps[k].1/\kX P fd.type=some ps[k].2.1)/\cB parts[k].2=some ps[k].2.2:=by
 induction parts generalizing ps with
 |nil=>cases h;exact⟨rfl,fun k h=>by simp at h⟩
 |cons p parts ih=>
  obtain⟨i,x⟩:=p
  simp only[Ar]at h;split at h
  ·rename_i fd x' l' h1 h2 h3;split at h
   ·rename_i n hn;cases h;obtain⟨e1,e2⟩:=ih h3;refine⟨by simp[e1],fun k hk dh=>?_⟩;cases k with
    |zero=>exact⟨⟨fd,h1,rfl,hn⟩,h2⟩
    |succ k=>exact e2 k (by simpa using hk) (by simpa using dh)
   ·cases h
  ·cases h
theorem ZN{sz:Nat}{parts:List (Nat×Operand)}{ps:List (Nat×Nat×bw)}(h:Aq sz parts=some ps):
  parts.length=ps.length/\∀k (h:k<parts.length) (h':k<ps.length),ps[k].1=parts[k].1*sz/\ps[k].2.1=sz/\cB parts[k].2=some ps[k].2.2:=by
 induction parts generalizing ps with
 |nil=>cases h;exact⟨rfl,fun k h=>by simp at h⟩
 |cons p parts ih=>
  obtain⟨i,x⟩:=p
  simp only[Aq]at h;split at h
  ·rename_i x' l' h2 h3;cases h;obtain⟨e1,e2⟩:=ih h3;refine⟨by simp[e1],fun k hk dh=>?_⟩;cases k with
   |zero=>exact⟨rfl,rfl,h2⟩
   |succ k=>exact e2 k (by simpa using hk) (by simpa using dh)
  ·cases h
theorem Qm{r:List AV}{ws:Array Value}(h:PW (VR g lb) r ws.toList)(h1:∀v∈ws.toList,v.oneCell'=true):VR g lb (.agg r) (.agg ws):=
 .agg _ _ _ (by simpa using h.1.symm) (fun i hi=>h1 _ (by simp)) fun i hi ab=>by have:=h.2 i hi (by simpa using ab);rwa[ml]at this
theorem Xc{r:List AV}{ws:Array Value}(h:VR g lb (.agg r) (.agg ws)):PW (VR g lb) r ws.toList/\∀v∈ws.toList,v.oneCell'=true:=by
 cases h with
 |agg _ _ _ hs h1 hv=>
  refine⟨⟨by simpa using hs.symm,fun i hi ab=>by rw[ml];exact hv i hi _⟩,fun v nj=>?_⟩
  obtain⟨j,hj,rfl⟩:=pj.1 nj;rw[ml];exact h1 j _
theorem run_build(ak:eS g lb ev a){t:TypeId}{parts:Array (Nat×Operand)}{z:List AV}{ps:List (Nat×Nat×bw)}{r:List AV}(hz:uQ P t=some z)
  (cT:(∃fields m,P.underlying t=some (.struct fields)/\places P fields.toList=some m/\Ar P fields parts.toList=some ps)∨
   (∃n e sz,P.underlying t=some (.array n e)/\kX P e=some sz/\Aq sz parts.toList=some ps))
  (hr:dp ev ps z=some r):∃x,(Instr.build t (parts.map fun(i,x)=>(i,a.eval x))).run P w= .ok x w/\VR g lb (.agg r) x:=by
 obtain⟨zv,i,hi,fT,gh,-,-,-,cM,h1⟩:=zT (P:=P) (g:=g) (lb:=lb) (w:=w) hz;have yW:(parts.map fun(i,x)=>(i,a.eval x)).toList=parts.toList.map fun(i,x)=>(i,a.eval x):=by simp
 rcases cT with⟨fields,m,hu,dQ,hc⟩|⟨n,e,sz,hu,aJ,hc⟩
 ·obtain⟨e1,e2⟩:=ZO hc;obtain⟨p1,p2⟩:=aiZ (w:=w) dQ;obtain⟨ws,k1,k2,k3⟩:=LK ak (fun i=>m.toArray[i]?) parts.toList ps z zv.cells r e1 (fun k h h'=>by
   obtain⟨⟨fd,q1,q2,q3⟩,q4⟩:=e2 k h h'
   obtain⟨i',q5,q6⟩:=p2 parts.toList[k].1 fd (by simpa using q1);unfold kX at q3;rw[q5]at q3;dsimp only at q3;split at q3
   ·rename_i h0;simp only[bc]at q3;refine⟨by simp only[J1,q6,q2,q3],q4,by rw[<-q3];exact h0⟩
   ·cases q3) cM h1 hr
  refine⟨.agg ws,?_,Qm k2 k3⟩;have yY:(fields.mapM fun f=>do pure (f.offset,<-sizeOf f.type):Sem (Array (Nat×Nat))).run P w= .ok m.toArray w:=by rw[Array.mapM_eq_mapM_toList];simp only[Sem.run_map,p1,Result.andThen_ok]
  simp only[Instr.build,Sem.run_bind,gh,Result.andThen_ok,run_underlying hu,yY,yW,k1];rfl
 ·obtain⟨e1,e2⟩:=ZN hc;obtain⟨s1,s2,-⟩:=pa (P:=P) (w:=w) aJ;obtain⟨ws,k1,k2,k3⟩:=LK ak (fun i=>some (i*sz,sz)) parts.toList ps z zv.cells r e1 (fun k h h'=>by
   obtain⟨q1,q2,q3⟩:=e2 k h h'
   exact⟨by rw[q1,q2],q3,by rw[q2];exact s2⟩) cM h1 hr
  refine⟨.agg ws,?_,Qm k2 k3⟩;simp only[Instr.build,Sem.run_bind,gh,Result.andThen_ok,run_underlying hu,s1,yW,k1];rfl
end
section
variable{P:Program}{base:Nat}{LC:eX}{g:Gh}{lb:LB}{own:OW}{loc:Nat->Option (Nat×θ)}{mem:Mem}{w:World}{bf:Nat->Bool}{ax:cu}
variable{ev:bw->AV}{a:Act}{o:Oper}{ao:AO}{v:AV}{u:kG}{m':Mem}
theorem ra.pure(hm:a_ g own LC mem w)(hl:cx g lb own loc w)(ho:bT base own w){x:Value}(h1:(execOp a.eval o).run P w= .ok (.value x) w)(h2:VR g lb v x):
  ra P base LC g lb own loc w a o v none mem:=⟨x,w,.inl h1,h_.pure hm hl ho h2⟩
theorem WI(ak:eS g lb ev a)(hm:a_ g own LC mem w)(hl:cx g lb own loc w)(ho:bT base own w){x:Operand}(Ξ:o.op= .move x\/o.op= .assign x)
  :gI P bf base LC g lb own loc mem w ax ev a o ao v u m':=fun hc hr=>by
 have hx:∃x',cB x=some x'/\ao= .mv x':=by rcases Ξ with Ξ|Ξ<;>simp only[cQ,Ξ,bE]at hc<;>(obtain⟨x',h1,rfl⟩:=hc;exact⟨x',h1,rfl⟩)
 obtain⟨x',gr,rfl⟩:=hx;simp only[aH,bc,az]at hr;obtain⟨rfl,rfl,rfl⟩:=hr;exact .pure hm hl ho (by rcases Ξ with Ξ|Ξ<;>simp only[execOp,Ξ]<;>rfl) (ak _ _ gr)
theorem agP(ak:eS g lb ev a)(hm:a_ g own LC mem w)(hl:cx g lb own loc w)(ho:bT base own w){x y z:Operand}(Ξ:o.op= .pick x y z)
  :gI P bf base LC g lb own loc mem w ax ev a o ao v u m':=fun hc hr=>by
 simp only[cQ,Ξ]at hc;split at hc
 ·rename_i x' y' z' h1 h2 h3;cases hc;simp only[aH]at hr;split at hr
  ·rename_i t ht;simp only[bc,az]at hr;obtain⟨rfl,rfl,rfl⟩:=hr;have k1:=ak _ _ h1;rw[ht]at k1;cases hx:a.eval x<;>rw[hx]at k1<;>cases k1;refine .pure (x:=if t then a.eval y else a.eval z) hm hl ho ?_ ?_
   ·simp only[execOp,Ξ,hx];cases t<;>rfl
   ·cases t
    ·exact ak _ _ h3
    ·exact ak _ _ h2
  ·cases hr
 ·cases hc
theorem agu(ak:eS g lb ev a)(hm:a_ g own LC mem w)(hl:cx g lb own loc w)(ho:bT base own w){t:TypeId}{parts:Array (Nat×Operand)}(Ξ:o.op= .build t parts)
  :gI P bf base LC g lb own loc mem w ax ev a o ao v u m':=fun hc hr=>by
 have key:∃z ps,ao= .build z ps/\uQ P t=some z/\((∃fields m,P.underlying t=some (.struct fields)/\places P fields.toList=some m/\Ar P fields parts.toList=some ps)∨
   (∃n e sz,P.underlying t=some (.array n e)/\kX P e=some sz/\Aq sz parts.toList=some ps)):=by
  simp only[cQ,Ξ]at hc;split at hc
  ·rename_i z fields hz hu;split at hc
   ·rename_i m dQ;simp only[bE]at hc;obtain⟨ps,h1,rfl⟩:=hc;exact⟨z,ps,rfl,hz,.inl ⟨fields,m,hu,dQ,h1⟩⟩
   ·cases hc
  ·rename_i z n e hz hu;split at hc
   ·rename_i sz aJ;simp only[bE]at hc;obtain⟨ps,h1,rfl⟩:=hc;exact⟨z,ps,rfl,hz,.inr ⟨n,e,sz,hu,aJ,h1⟩⟩
   ·cases hc
  ·cases hc
 obtain⟨z,ps,rfl,hz,cT⟩:=key;simp only[aH,bE,az]at hr;obtain⟨r,hr,rfl,rfl,rfl⟩:=hr;obtain⟨x,h1,h2⟩:=run_build (w:=w) ak hz cT hr;exact .pure hm hl ho (by simp only[execOp,Ξ,Sem.run_bind,h1,Result.andThen_ok];rfl) h2
theorem VR.aa9{f f':Fn}{l m:List AV}{x y:Array Value}(h:VR g lb (.fn f l m) (.func f' x y))(hn:¬su g.mb f f'):False:=by cases h;rename_i hy _ _;exact hn (by assumption)
theorem agN(ak:eS g lb ev a)(hm:a_ g own LC mem w)(hl:cx g lb own loc w)(ho:bT base own w){x:Operand}(Ξ:o.op= .nilCheck x)
  :gI P bf base LC g lb own loc mem w ax ev a o ao v u m':=fun hc hr=>by
 simp only[cQ,Ξ,bE]at hc;obtain⟨x',h1,rfl⟩:=hc;have k1:=ak _ _ h1;have key:v=ev x'/\u=none/\m'=mem/\(execOp a.eval o).run P w= .ok (.value (a.eval x)) w:=by
  simp only[aH]at hr;split at hr<;>first|(cases hr;done)|skip
  all_goals
   rename_i he;rw[he]at k1;simp only[bc,az]at hr;obtain⟨rfl,rfl,rfl⟩:=hr;refine⟨he.symm,rfl,rfl,?_⟩;cases hx:a.eval x<;>rw[hx]at k1<;>first
    |(cases k1;done)
    |(cases k1;simp only[execOp,Ξ,hx];rfl)
    |(rename_i f' _ _;cases f'<;>first|(cases k1;simp only[execOp,Ξ,hx];rfl)|(exact(VR.aa9 k1 (by simp[su])).elim))
 obtain⟨rfl,rfl,rfl,h2⟩:=key;exact .pure hm hl ho h2 k1
theorem PD(op:BinOp)(t:TypeId)(x y:Operand){xv yv:Value}(h:(∀l,xv≠ .agg l)/\xv≠ .nilIface):(eqGuard op t x y xv yv).run P w= .ok () w:=by
 cases xv<;>first|(exact absurd rfl (h.1 _))|(exact absurd rfl h.2)|skip
 all_goals cases op<;>rfl
theorem WC(ak:eS g lb ev a)(hm:a_ g own LC mem w)(hl:cx g lb own loc w)(ho:bT base own w){op:BinOp}{t ty:TypeId}{x y:Operand}(Ξ:o.op= .binOp op t x y ty)
  {x' y':bw} (hx:cB x=some x') (hy:cB y=some y')
  (hr:aH ev loc mem ax o.dst (.bin op x' y')=some (v,u,m')):ra P base LC g lb own loc w a o v u m':=by
 simp only[aH,bE,az]at hr;obtain⟨r,hr,rfl,rfl,rfl⟩:=hr;have k1:=ak _ _ hx;have k2:=ak _ _ hy;obtain⟨z,h1,h2⟩:=YB (P:=P) (w:=w) (t:=t) k1 k2 hr;refine .pure hm hl ho ?_ h2;have hg:(∀l,a.eval x≠ .agg l)/\a.eval x≠ .nilIface:=by
  unfold ib at hr;split at hr<;>first|(cases hr;done)|skip
  all_goals
   rename_i he _;rw[he]at k1;cases hz:a.eval x<;>rw[hz]at k1<;>cases k1<;>simp
 simp only[execOp,Ξ,Sem.run_bind,PD op t x y hg,h1,Result.andThen_ok];rfl
theorem WD(ak:eS g lb ev a)(hm:a_ g own LC mem w)(hl:cx g lb own loc w)(ho:bT base own w){op:BinOp}{t ty:TypeId}{x y:Operand}(Ξ:o.op= .binOp op t x y ty)
  {x' y':bw} (hx:cB x=some x') (hy:cB y=some y') (hu:P.underlying t=some .bool) {neg:Bool} (hn:op=if neg then .neq else .eql)
  (hr:aH ev loc mem ax o.dst (.CG neg x' y')=some (v,u,m')):ra P base LC g lb own loc w a o v u m':=by
 simp only[aH]at hr;split at hr
 ·rename_i b c e1 e2;simp only[bc,az]at hr;obtain⟨rfl,rfl,rfl⟩:=hr;have k1:=ak _ _ hx;have k2:=ak _ _ hy;rw[e1]at k1;rw[e2]at k2;cases bJ:a.eval x<;>rw[bJ]at k1<;>cases k1;cases vQ:a.eval y<;>rw[vQ]at k2<;>cases k2;have he:(Op.equal t (.bool b) (.bool c)).run P w= .ok (b==c) w:=run_equalIn_bool 9999 hu b c;refine .pure (x:= .bool (if neg then !(b==c)else b==c)) hm hl ho ?_ (.bool _ _);cases neg<;>simp only[jI,if_false,if_true]at hn<;>subst hn
  ·simp only[execOp,Ξ,bJ,vQ,Sem.run_bind,PD .eql t x y (xv:= .bool b) (yv:= .bool c) (by simp),Result.andThen_ok,binOp,he];rfl
  ·simp only[execOp,Ξ,bJ,vQ,Sem.run_bind,PD .neq t x y (xv:= .bool b) (yv:= .bool c) (by simp),Result.andThen_ok,binOp,he];rfl
 ·cases hr
theorem af9{k:NK}{y:Operand}{t:TypeId}(h:O5 k y=true)(ht:∀v,(match k with
  | .ptr=>v=Value.pointer none
  | .slice=>v= .slice none 0 0
  | .fn=>v= .nilFunc
  | .iface=>v= .nilIface
  | .map=>v= .map none)->k.fits P t v):∃v,y= .const v/\k.fits P t v/\(∀l,v≠ .agg l)/\(v= .nilIface->True)/\v.oneCell'=true:=by
 unfold O5 at h;split at h<;>first|(cases h;done)|exact⟨_,rfl,ht _ rfl,by simp,fun _=>trivial,rfl⟩
theorem aiY(op:BinOp)(t:TypeId)(x:Operand){xv v:Value}(h:∀l,v≠ .agg l):(eqGuard op t x (.const v) xv v).run P w= .ok () w:=by
 cases op<;>first|rfl|skip
 all_goals
  unfold eqGuard;cases xv<;>cases v<;>first|rfl|exact absurd rfl (h _)|(cases x<;>rfl)
theorem Ed(ak:eS g lb ev a)(hm:a_ g own LC mem w)(hl:cx g lb own loc w)(ho:bT base own w){op:BinOp}{t ty:TypeId}{x y:Operand}(Ξ:o.op= .binOp op t x y ty)
  {x':bw} (hx:cB x=some x') {k:NK} (hc:u9 k op x' y=some ao) (ht:∀v,(match k with
  | .ptr=>v=Value.pointer none
  | .slice=>v= .slice none 0 0
  | .fn=>v= .nilFunc
  | .iface=>v= .nilIface
  | .map=>v= .map none)->k.fits P t v)
  (hr:aH ev loc mem ax o.dst ao=some (v,u,m')):ra P base LC g lb own loc w a o v u m':=by
 unfold u9 at hc;split at hc
 ·rename_i hn;obtain⟨nv,rfl,hf,lJ,-,h1⟩:=af9 (P:=P) (t:=t) hn ht;have k1:=ak _ _ hx;have Up:a.eval (.const nv)=nv:=rfl;obtain⟨xv,bJ⟩:∃xv,a.eval x=xv:=⟨_,rfl⟩;rw[bJ]at k1;have hg:=fun op=>aiY (P:=P) (w:=w) op t x (xv:=xv) lJ;have Ud:∀r,isNil k (ev x')=some r->(binOp .eql t xv nv).run P w= .ok (.bool r) w/\(binOp .neq t xv nv).run P w= .ok (.bool (!r)) w:=by
   intro r hr;have he:=adh (P:=P) (w:=w) k1 hr hf;unfold isNil at hr;split at hr<;>first|(cases hr;done)|skip
   all_goals
    rename_i ek;rw[ek]at k1;cases k1<;>cases nv<;>first
     |(exact absurd rfl (lJ _))
     |(cases h1;done)
     |(constructor<;>(simp only[binOp,Sem.run_bind,he,Result.andThen_ok];rfl))
     |(exfalso;obtain⟨_,hh⟩:=hf;cases hh;done)
  split at hc
  ·cases hc;simp only[aH,bE,az,jI,if_false]at hr;obtain⟨r,hr,rfl,rfl,rfl⟩:=hr;refine .pure (x:= .bool r) hm hl ho ?_ (.bool _ _);simp only[execOp,Ξ,bJ,Up,Sem.run_bind,hg,Result.andThen_ok,(Ud r hr).1];rfl
  ·cases hc;simp only[aH,bE,az,if_true]at hr;obtain⟨r,hr,rfl,rfl,rfl⟩:=hr;refine .pure (x:= .bool (!r)) hm hl ho ?_ (.bool _ _);simp only[execOp,Ξ,bJ,Up,Sem.run_bind,hg,Result.andThen_ok,(Ud r hr).2];rfl
  ·cases hc
 ·cases hc
theorem agU(ak:eS g lb ev a)(hm:a_ g own LC mem w)(hl:cx g lb own loc w)(ho:bT base own w){op:UnOp}{t:TypeId}{x:Operand}(Ξ:o.op= .unOp op t x)
  :gI P bf base LC g lb own loc mem w ax ev a o ao v u m':=fun hc hr=>by
 simp only[cQ,Ξ,bE]at hc;obtain⟨x',h1,rfl⟩:=hc;simp only[aH,bE,az]at hr;obtain⟨r,hr,rfl,rfl,rfl⟩:=hr;obtain⟨z,k1,k2⟩:=YE (P:=P) (w:=w) (ak _ _ h1) hr;exact .pure hm hl ho (by simp only[execOp,Ξ,Sem.run_bind,k1,Result.andThen_ok];rfl) k2
theorem agw(ak:eS g lb ev a)(hm:a_ g own LC mem w)(hl:cx g lb own loc w)(ho:bT base own w){s d:TypeId}{x:Operand}(Ξ:o.op= .convert s d x)
  :gI P bf base LC g lb own loc mem w ax ev a o ao v u m':=fun hc hr=>by
 simp only[cQ,Ξ]at hc;split at hc
 ·rename_i ds k x' hs hd hx;cases hc;simp only[aH,bE,az]at hr;obtain⟨r,hr,rfl,rfl,rfl⟩:=hr;unfold lq at hr;split at hr
  ·rename_i he;cases hr;rename_i k' n hk;cases hk;have k1:=ak _ _ hx;rw[he]at k1;cases bJ:a.eval x<;>rw[bJ]at k1<;>cases k1;exact .pure hm hl ho (by simp only[execOp,Ξ,bJ,Sem.run_bind,convert,run_underlying hs,run_underlying hd,Result.andThen_ok];rfl) (.int _ _ _)
  ·rename_i h _;cases h
  ·rename_i h _;cases h
  ·cases hr
 ·rename_i x' hs hd hx;cases hc;simp only[aH,bE,az]at hr;obtain⟨r,hr,rfl,rfl,rfl⟩:=hr;unfold lq at hr;split at hr
  ·rename_i h _;cases h
  ·rename_i he;cases hr;have k1:=ak _ _ hx;rw[he]at k1;cases bJ:a.eval x<;>rw[bJ]at k1<;>cases k1;rename_i hb;exact .pure hm hl ho (by simp only[execOp,Ξ,bJ,Sem.run_bind,convert,run_underlying hs,run_underlying hd,Result.andThen_ok];rfl) (.str _ _ _ hb)
  ·rename_i h _;cases h
  ·cases hr
 ·rename_i k x' hs hd hx;cases hc;simp only[aH,bE,az]at hr;obtain⟨r,hr,rfl,rfl,rfl⟩:=hr;unfold lq at hr;split at hr
  ·rename_i h _;cases h
  ·rename_i h _;cases h
  ·rename_i he;cases hr;have k1:=ak _ _ hx;rw[he]at k1;cases bJ:a.eval x<;>rw[bJ]at k1<;>cases k1;exact .pure hm hl ho (by simp only[execOp,Ξ,bJ,Sem.run_bind,convert,run_underlying hs,run_underlying hd,Result.andThen_ok];rfl) (.str _ _ _ rfl)
  ·cases hr
 ·cases hc
theorem agK(ak:eS g lb ev a)(hm:a_ g own LC mem w)(hl:cx g lb own loc w)(ho:bT base own w){t:TypeId}{x:Operand}(Ξ:o.op= .makeInterface t x)
  :gI P bf base LC g lb own loc mem w ax ev a o ao v u m':=fun hc hr=>by
 simp only[cQ,Ξ]at hc;split at hc
 ·cases hc
 ·rename_i d x' hni hu hx;cases hc;simp only[aH,bc,az]at hr;obtain⟨rfl,rfl,rfl⟩:=hr;refine .pure hm hl ho (x:= .iface t (a.eval x)) ?_ (.iface _ _ _ _ (ak _ _ hx));have abT:P.concrete t=true:=by unfold Program.concrete;rw[hu];cases d<;>first|rfl|exact absurd rfl (hni _)
  simp only[execOp,Ξ,Sem.run_bind,run_makeInterface w t _ abT,Result.andThen_ok];rfl
 ·cases hc
theorem agJ(ak:eS g lb ev a)(hm:a_ g own LC mem w)(hl:cx g lb own loc w)(ho:bT base own w){f:Fn}{x y:Array Operand}(Ξ:o.op= .makeFunc f x y)
  :gI P bf base LC g lb own loc mem w ax ev a o ao v u m':=fun hc hr=>by
 cases f<;>simp only[cQ,Ξ]at hc<;>first|(cases hc;done)|skip
 rename_i f;split at hc
 ·rename_i x' y' hx hy;cases hc;simp only[aH,bc,az]at hr;obtain⟨rfl,rfl,rfl⟩:=hr;have k1:=FU ak hx;have k2:=FU ak hy;refine .pure hm hl ho (x:= .func (.func f) (x.map a.eval) (y.map a.eval)) (by simp only[execOp,Ξ];rfl) ?_;refine .fn _ _ _ _ _ _ _ (by simpa using k1.1.symm) (by simpa using k2.1.symm) rfl (fun i hi ab=>?_) (fun i hi ab=>?_)
  ·have:=k1.2 i hi (by simpa using ab);simpa using this
  ·have:=k2.2 i hi (by simpa using ab);simpa using this
 ·cases hc
theorem X6{s f off:Nat}{t:TypeId}(h:JG P s f=some (off,t)):∃fields fd,P.underlying s=some (.struct fields)/\fields[f]?=some fd/\fd.offset=off/\fd.type=t:=by
 unfold JG at h;split at h
 ·rename_i fields hu;split at h
  ·rename_i fd hf;simp only[bc,az]at h;exact⟨fields,fd,hu,hf,h.1,h.2⟩
  ·cases h
 ·cases h
theorem agA(ak:eS g lb ev a)(hm:a_ g own LC mem w)(hl:cx g lb own loc w)(ho:bT base own w){s:TypeId}{x:Operand}{f:Nat}(Ξ:o.op= .fieldAddr s x f)
  :gI P bf base LC g lb own loc mem w ax ev a o ao v u m':=fun hc hr=>by
 simp only[cQ,Ξ]at hc;split at hc
 ·rename_i off t x' hf hx;split at hc
  ·rename_i n hn;cases hc;simp only[aH,bE,az]at hr;obtain⟨r,hr,rfl,rfl,rfl⟩:=hr;obtain⟨ad,k1,k2⟩:=WO (ak _ _ hx) hr;obtain⟨fields,fd,q1,q2,rfl,rfl⟩:=X6 hf;obtain⟨s1,s2,-⟩:=pa (P:=P) (w:=w) hn;refine .pure hm hl ho ?_ k2;simp only[execOp,Ξ,k1,Sem.run_bind,Instr.fieldAt,run_underlying q1,Result.andThen_ok,q2,Instr.sureAddr,Sem.run_pure,fieldPlace,s1];rw[if_neg (by omega)];rfl
  ·cases hc
 ·cases hc
theorem agB(ak:eS g lb ev a)(hm:a_ g own LC mem w)(hl:cx g lb own loc w)(ho:bT base own w){s:TypeId}{x:Operand}{f:Nat}(Ξ:o.op= .field s x f)
  :gI P bf base LC g lb own loc mem w ax ev a o ao v u m':=fun hc hr=>by
 simp only[cQ,Ξ]at hc;split at hc
 ·rename_i off t x' hf hx;split at hc
  ·rename_i n ag hn lJ;cases hc;simp only[aH]at hr;split at hr
   ·rename_i l he;split at hr
    ·rename_i hle;simp only[bE,az]at hr;obtain⟨r,hr,rfl,rfl,rfl⟩:=hr;have k1:=ak _ _ hx;rw[he]at k1;obtain⟨fields,fd,q1,q2,rfl,rfl⟩:=X6 hf;cases bJ:a.eval x<;>rw[bJ]at k1<;>(try cases k1;done);obtain⟨z,e1,e2⟩:=WR (P:=P) (w:=w) k1 hle (JF lJ) (pa hn).1 hr;refine .pure hm hl ho ?_ e2;simp only[execOp,Ξ,bJ,Sem.run_bind,Instr.field,run_underlying q1,Result.andThen_ok,q2,asAgg,Sem.run_pure,e1]
    ·cases hr
   ·cases hr
  ·cases hc
 ·cases hc
end
section
variable{P:Program}{base:Nat}{LC:eX}{g:Gh}{lb:LB}{own:OW}{loc:Nat->Option (Nat×θ)}{mem:Mem}{w:World}{bf:Nat->Bool}{ax:cu}
variable{ev:bw->AV}{a:Act}{o:Oper}{ao:AO}{v:AV}{u:kG}{m':Mem}
theorem uR{k:IntKind}{n:Int}{x:Value}(h:VR g lb (.int k n) x):x= .int k n:=by cases h;rfl
theorem agC(ak:eS g lb ev a)(hm:a_ g own LC mem w)(hl:cx g lb own loc w)(ho:bT base own w){t:TypeId}{x i:Operand}(Ξ:o.op= .indexAddr t x i)
  :gI P bf base LC g lb own loc mem w ax ev a o ao v u m':=fun hc hr=>by
 simp only[cQ,Ξ]at hc;split at hc
 ·rename_i e x' i' hu hx hi;simp only[bE]at hc;obtain⟨sz,aJ,rfl⟩:=hc;simp only[aH]at hr;split at hr
  ·rename_i c l k n e1 e2;split at hr
   ·rename_i hb;split at hr
    ·rename_i el Dd;split at hr
     ·rename_i MO;simp only[bc,az]at hr;obtain⟨rfl,rfl,rfl⟩:=hr;have k1:=ak _ _ hx;have k2:=ak _ _ hi;rw[e1]at k1;rw[e2]at k2;obtain⟨s1,s2,-⟩:=pa (P:=P) (w:=w) aJ;have τ:l≠[]:=by rintro rfl;simp at hb;omega
      cases bJ:a.eval x<;>rw[bJ]at k1<;>(try(cases k1;done));cases k1 with
      |iS=>exact absurd rfl τ
      |iw=>exact absurd rfl τ
      |list _ _ _ b off eQ nn cap xs hn dP eD DK cC hv=>
       have χ:n.toNat<l.length:=by omega
       have MN:l[n.toNat]=el:=by rw[dN χ]at Dd;exact Option.some.inj Dd
       have ac3:eQ=sz:=by rw[<-DK _ (df χ),MN,MO]
       subst ac3;refine .pure hm hl ho (x:= .pointer (some ⟨b,off+n.toNat*eQ,none⟩)) ?_ ?_
       ·simp only[execOp,Ξ,bJ,uR k2,Sem.run_bind,Instr.indexAt,asIntOf,Sem.run_pure,Result.andThen_ok,run_underlying hu];rw[if_pos (by rw[<-hn];exact hb)];simp only[Sem.run_bind,s1,Result.andThen_ok,Sem.run_pure,Addr.add_mid]
       ·refine .ref _ _ b (off+n.toNat*eQ) (fun j=>xs n.toNat j) (fun j hj=>?_) (fun j hj=>?_)
        ·have:=cC n.toNat (by omega) j (by omega);rwa[qc]
        ·have:=hv n.toNat χ j (by rw[MN];exact hj);simpa only[MN]using this
     ·cases hr
    ·cases hr
   ·cases hr
  ·rename_i id off m cp k n e1 e2;split at hr
   ·rename_i hb;simp only[bc,az]at hr;obtain⟨rfl,rfl,rfl⟩:=hr;have k1:=ak _ _ hx;have k2:=ak _ _ hi;rw[e1]at k1;rw[e2]at k2;obtain⟨s1,s2,-⟩:=pa (P:=P) (w:=w) aJ;cases bJ:a.eval x<;>rw[bJ]at k1<;>(try(cases k1;done));cases k1 with
    |sl _ _ _ _ _ _ _ b hc _ aT=>
     refine .pure hm hl ho (x:= .pointer (some ⟨b,off+n.toNat*sz,none⟩)) ?_ (.μ _ _ _ b aT)
     simp only[execOp,Ξ,bJ,uR k2,Sem.run_bind,Instr.indexAt,asIntOf,Sem.run_pure,Result.andThen_ok,run_underlying hu];rw[if_pos hb];simp only[Sem.run_bind,s1,Result.andThen_ok,Sem.run_pure,Addr.add_mid]
   ·cases hr
  ·cases hr
 ·rename_i len e x' i' hu hx hi;simp only[bE]at hc;obtain⟨sz,aJ,rfl⟩:=hc;simp only[aH]at hr;split at hr
  ·rename_i k n e2;split at hr
   ·rename_i hb;simp only[bE,az]at hr;obtain⟨r,hr,rfl,rfl,rfl⟩:=hr;have k2:=ak _ _ hi;rw[e2]at k2;obtain⟨ad,k1,k3⟩:=WO (ak _ _ hx) hr;obtain⟨s1,s2,-⟩:=pa (P:=P) (w:=w) aJ;refine .pure hm hl ho ?_ k3;simp only[execOp,Ξ,k1,uR k2,Sem.run_bind,Instr.indexAt,asIntOf,Sem.run_pure,Result.andThen_ok,run_underlying hu,Instr.sureAddr];rw[if_pos hb];simp only[Sem.run_bind,s1,Result.andThen_ok,Sem.run_pure]
   ·cases hr
  ·cases hr
 ·cases hc
theorem agE(ak:eS g lb ev a)(hm:a_ g own LC mem w)(hl:cx g lb own loc w)(ho:bT base own w){t:TypeId}{x i:Operand}(Ξ:o.op= .index t x i)
  :gI P bf base LC g lb own loc mem w ax ev a o ao v u m':=fun hc hr=>by
 simp only[cQ,Ξ]at hc;split at hc
 ·rename_i len e x' i' hu hx hi;split at hc
  ·rename_i sz ag aJ lJ;cases hc;simp only[aH]at hr;split at hr
   ·rename_i l k n e1 e2;split at hr
    ·rename_i hb;obtain⟨dt,dy,sN⟩:=hb;simp only[bE,az]at hr;obtain⟨r,hr,rfl,rfl,rfl⟩:=hr;have k1:=ak _ _ hx;have k2:=ak _ _ hi;rw[e1]at k1;rw[e2]at k2;obtain⟨s1,s2,-⟩:=pa (P:=P) (w:=w) aJ;cases bJ:a.eval x<;>rw[bJ]at k1<;>(try(cases k1;done));have hle:n.toNat*sz+sz<=l.length:=by rw[sN];have:(n.toNat+1)*sz<=len*sz:=mq _ (by omega);rw[kF]at this;omega
     obtain⟨z,q1,q2⟩:=WR (P:=P) (w:=w) k1 hle (JF lJ) s1 hr;refine .pure hm hl ho ?_ q2;simp only[execOp,Ξ,bJ,uR k2,Sem.run_bind,Instr.index,asIntOf,Sem.run_pure,Result.andThen_ok,run_underlying hu];rw[if_pos ⟨dt,dy⟩];simp only[Sem.run_bind,s1,Result.andThen_ok,q1]
    ·cases hr
   ·cases hr
  ·cases hc
 ·rename_i x' i' hu hx hi;cases hc;simp only[aH]at hr;split at hr
  ·rename_i s k n e1 e2;split at hr
   ·rename_i hb;simp only[bE,az]at hr;obtain⟨r,hr,rfl,rfl,rfl⟩:=hr;have k1:=ak _ _ hx;have k2:=ak _ _ hi;rw[e1]at k1;rw[e2]at k2;cases bJ:a.eval x<;>rw[bJ]at k1<;>cases k1;rename_i bs fG;obtain⟨c,hgb,oJ⟩:∃c:UInt8,bs[n.toNat]?=some c/\c.toNat=r:=by
     rw[<-fG]at hr;simp only[nD,bE]at hr;obtain⟨c,hc,rfl⟩:=hr;have χ:=(fu.1 hc).1;have eO:n.toNat<bs.size:=by simpa using χ
     refine⟨c,?_,rfl⟩;have h1:bs[n.toNat]?=some (bs[n.toNat]'eO):=by simp[getElem?_pos,eO]
     rw[h1];have h2:bs.data.toList[n.toNat]?=some (bs[n.toNat]'eO):=by rw[dN χ];rfl
     rw[h2]at hc;exact hc
    refine .pure hm hl ho (x:= .int .u8 (Int.ofNat r)) ?_ (.int _ _ _);simp only[execOp,Ξ,bJ,uR k2,Sem.run_bind,Instr.index,asIntOf,Sem.run_pure,Result.andThen_ok,run_underlying hu,if_pos hb,hgb,oJ];rfl
   ·cases hr
  ·cases hr
 ·cases hc
theorem yl(ak:eS g lb ev a){x:Option Operand}{x':Option bw}(h:tV x=some x'){top FK r:Nat}(hb:bound ev top x' FK=some r):
  (x=none/\r=FK)\/(∃y k n,x=some y/\a.eval y= .int k n/\0<=n/\n<=top/\r=n.toNat):=by
 cases x with
 |none=>cases h;cases hb;exact .inl ⟨rfl,rfl⟩
 |some y=>
  simp only[tV,bE]at h
  obtain⟨y',hy,rfl⟩:=h;simp only[bound]at hb;split at hb
  ·rename_i k n he;split at hb
   ·rename_i hc;cases hb;have:=ak _ _ hy;rw[he]at this;exact .inr ⟨y,k,n,rfl,uR this,hc.1,hc.2,rfl⟩
   ·cases hb
  ·cases hb
theorem run_sliceBound{k:IntKind}{n:Int}{top:Nat}{code:BoundsCode}(h0:0<=n)(h1:n<=top):(Instr.sliceBound (.int k n) top code).run P w= .ok n.toNat w:=by simp only[Instr.sliceBound,asIntOf,Sem.run_bind,Sem.run_pure,Result.andThen_ok];rw[if_pos ⟨h0,h1⟩];rfl
theorem agR(ak:eS g lb ev a)(hm:a_ g own LC mem w)(hl:cx g lb own loc w)(ho:bT base own w){t:TypeId}{x:Operand}{lo hi mx:Option Operand}(Ξ:o.op= .slice t x lo hi mx)
  :gI P bf base LC g lb own loc mem w ax ev a o ao v u m':=fun hc hr=>by
 simp only[cQ,Ξ]at hc;split at hc
 ·rename_i e x' We ab OX hu hx jL xg jM;split at hc
  ·cases hc
  ·rename_i UN;simp only[bE]at hc;obtain⟨sz,aJ,rfl⟩:=hc;obtain⟨s1,s2,-⟩:=pa (P:=P) (w:=w) aJ;simp only[aH]at hr;split at hr
   ·rename_i c l he;split at hr
    ·rename_i jv;simp only[dS,decide_eq_true_eq]at jv;split at hr
     ·rename_i m HA;split at hr
      ·rename_i h C5;split at hr
       ·rename_i b ep;simp only[bc,az]at hr;obtain⟨rfl,rfl,rfl⟩:=hr;have k1:=ak _ _ hx;rw[he]at k1;have q1:=yl ak jM HA;have q2:=yl ak xg C5;have q3:=yl ak jL ep;have vD:m<=l.length:=by rcases q1 with⟨_,h⟩|⟨_,_,n,_,_,_,h,h'⟩<;>omega
        have hhm:h<=m:=by
         rcases q2 with⟨hh,h⟩|⟨_,_,n,_,_,_,h,h'⟩
         ·rcases q1 with⟨_,h1⟩|⟨y,_,_,hy,_⟩
          ·omega
          ·exfalso;subst hh;subst hy;simp only[tV,bE]at jM xg;obtain⟨_,_,rfl⟩:=jM;cases xg;exact UN rfl
         ·omega
        have Ua:b<=h:=by rcases q3 with⟨_,h⟩|⟨_,_,n,_,_,_,h,h'⟩<;>omega
        obtain⟨A,cap,bJ,dP,abO,ab4⟩:∃A cap,a.eval x= .slice A l.length cap/\l.length<=cap/\(c= .full->cap=l.length)∧
          (l=[]\/∃bb oo vs,A=some ⟨bb,oo,none⟩/\FR g bV sz l vs/\∀q v,vs[q]?=some v->g.im bb (oo+q)=some v):=by
         by_cases hle:l=[]
         ·subst hle;generalize a.eval x=xv at k1;cases k1 with
          |iS=>exact⟨none,0,rfl,bA _,fun _=>rfl,.inl rfl⟩
          |iw _ _ ad cap hc=>
           refine⟨_,cap,rfl,q_ _,fun h=>?_,.inl rfl⟩
           rcases hc with hc|⟨_,hc⟩
           ·rw[hc]at h;cases h
           ·exact hc
          |list _ _ _ bb oo eQ nn cap xs hn dP eD=>simp at hn;subst hn;exact⟨_,cap,rfl,dP,fun h=>(by subst h;exact eD),.inl rfl⟩
         ·obtain⟨bb,oo,cap,vs,f1,f2,f3,f4,f5⟩:=k1.flat jv hle;exact⟨_,cap,f1,f2,fun h=>(by subst h;exact f3),.inr ⟨bb,oo,vs,rfl,f4,f5⟩⟩
        have abK:∃M,(Instr.sliceBounds true l.length cap (lo.map a.eval) (hi.map a.eval) (mx.map a.eval)).run P w= .ok (b,h,M) w/\h<=M/\(mx.isSome=true->M=m)/\(mx=none->M=cap):=by
         rcases q1 with⟨rfl,Ns⟩|⟨ym,km,nm,rfl,Vq,UK,Ns,UL⟩
         ·refine⟨cap,?_,by omega,fun h=>(by cases h),fun _=>rfl⟩;rcases q2 with⟨rfl,nV⟩|⟨yh,kh,nh,rfl,s9,vu,nV,uf⟩
          ·rcases q3 with⟨rfl,dt⟩|⟨yb,kb,nb,rfl,qH,gM,dt,dy⟩
           ·subst dt nV;simp[Instr.sliceBounds]
           ·subst dy nV;simp[Instr.sliceBounds,qH,run_sliceBound gM dt]
          ·have hb:(Instr.sliceBound (.int kh nh) cap .sliceAcap).run P w= .ok nh.toNat w:=run_sliceBound vu (by omega);rcases q3 with⟨rfl,dt⟩|⟨yb,kb,nb,rfl,qH,gM,dt,dy⟩
           ·subst dt uf;simp[Instr.sliceBounds,s9,hb]
           ·subst dy uf;simp[Instr.sliceBounds,s9,qH,hb,run_sliceBound gM dt]
         ·have Uf:(Instr.sliceBound (.int km nm) cap .slice3Acap).run P w= .ok m w:=by rw[UL];exact run_sliceBound UK (by omega)
          refine⟨m,?_,hhm,fun _=>rfl,fun h=>(by cases h)⟩;rcases q2 with⟨rfl,nV⟩|⟨yh,kh,nh,rfl,s9,vu,nV,uf⟩
          ·exfalso;simp only[tV,bE]at jM xg;obtain⟨_,_,rfl⟩:=jM;cases xg;exact UN rfl
          ·have Uc:(Instr.sliceBound (.int kh nh) m .slice3B).run P w= .ok h w:=by rw[uf];exact run_sliceBound vu nV
           rcases q3 with⟨rfl,dt⟩|⟨yb,kb,nb,rfl,qH,gM,dt,dy⟩
           ·subst dt;simp[Instr.sliceBounds,Vq,s9,Uf,Uc]
           ·have:(Instr.sliceBound (.int kb nb) h .slice3C).run P w= .ok b w:=by rw[dy];exact run_sliceBound gM dt
            simp[Instr.sliceBounds,Vq,s9,qH,Uf,Uc,this]
        obtain⟨M,qD,hhM,Hw,CY⟩:=abK;have dY:(execOp a.eval o).run P w= .ok (.value (.slice (if M=b then A else A.map (·.add (b*sz))) (h-b) (M-b))) w:=by simp only[execOp,Ξ,bJ,Instr.sliceAt,Instr.slice,Sem.run_bind,run_underlying hu,Result.andThen_ok,qD,s1,Sem.run_pure]
        refine .pure hm hl ho dY ?_;have hlen:((l.take h).drop b).length=h-b:=by simp;omega
        have HD:∀bb oo,mV g (h-b) bb oo (M-b) (if OX.isSome=true then(if m=h then ξ.full else .any)else if c= .full/\h=l.length then .full else .any):=by
         intro bb oo;split
         ·rename_i hs;have sY:mx.isSome=true:=by
           cases mx with
           |none=>cases jM;cases hs
           |some _=>rfl
          split
          ·have:=Hw sY;simp only[mV];omega
          ·trivial
         ·rename_i hs;have sY:mx=none:=by
           cases mx with
           |none=>rfl
           |some _=>simp only[tV,bE]at jM;obtain⟨_,_,rfl⟩:=jM;exact absurd rfl hs
          split
          ·rename_i hf;have:=CY sY;have:=abO hf.1;simp only[mV];omega
          ·trivial
        have acA:∀tg,(if OX.isSome=true then(if m=h then ξ.full else .any)else if c= .full/\h=l.length then .full else .any)≠ .own tg:=by intro tg;(repeat' split)<;>simp
        have mD:∀A',A=some A'->c≠ .nil:=by
         intro A' hA' hc;subst hA' hc;rw[bJ]at k1;cases k1 with
         |iw _ _ ad cap hc=>rcases hc with hc|⟨hc,_⟩<;>cases hc
         |list _ _ _ bb oo eQ nn gq xs hn abM eD=>exact eD
        rcases ab4 with rfl|⟨bb,oo,vs,rfl,dI,cC⟩
        ·have gM:b=0:=by simp at vD;omega
         have vu:h=0:=by simp at vD;omega
         subst gM vu;simp only[List.take_nil,List.drop_nil,alb,Nat.sub_zero];have hA:(if M=0 then A else A.map (·.add 0))=A:=by
          split
          ·rfl
          ·cases A<;>simp[Addr.add]
         rw[hA];cases DQ:A with
         |none=>
          rw[bJ,DQ]at k1
          have hMc:M=0:=by
           cases k1 with
           |iS=>
            cases mx with
            |none=>exact CY rfl
            |some _=>have:=Hw rfl;simp at vD;omega
          subst hMc;have abS:c= .nil:=by cases k1;rfl
          rw[if_pos abS];exact .iS _
         |some A'=>
          have abR:=mD A' DQ
          rw[if_neg abR];rw[bJ,DQ]at k1;cases k1 with
          |iw _ _ ad cap hc=>
           refine .iw _ _ _ _ ?_
           have hq:=HD 0 0;have UT:=acA;generalize(if OX.isSome=true then(if m=0 then ξ.full else .any)else if c= .full/\0=([]:List AV).length then .full else .any)=cc at hq UT⊢;cases cc with
           |any=>exact .inl rfl
           |nil=>exact hq.elim
           |own tg=>exact absurd rfl (UT tg)
           |full=>exact .inr ⟨rfl,by simpa[mV]using hq⟩
          |list _ _ _ bb oo eQ nn gq xs hn abM eD=>exact .list _ _ [] bb oo sz 0 _ (fun _ _=>undef) rfl (q_ _) (by have:=HD bb oo;simpa using this) (by simp) (fun i hi=>by omega) (fun i hi=>by simp at hi)
        ·rw[if_neg (mD _ rfl)];by_cases Ub:h-b=0
         ·have rM:(l.take h).drop b=[]:=List.eq_nil_of_length_eq_zero (by omega);rw[rM,Ub];have hA:∃o2,(if M=b then some (⟨bb,oo,none⟩:Addr)else(some (⟨bb,oo,none⟩:Addr)).map (·.add (b*sz)))=some ⟨bb,o2,none⟩:=by
           split
           ·exact⟨_,rfl⟩
           ·exact⟨oo+b*sz,by simp[Addr.add_mid]⟩
          obtain⟨o2,hA⟩:=hA;rw[hA];exact .list _ _ [] bb o2 sz 0 _ (fun _ _=>undef) rfl (q_ _) (by have:=HD bb o2;rwa[Ub]at this) (by simp) (fun i hi=>by omega) (fun i hi=>by simp at hi)
         ·have hMb:¬M=b:=by omega
          simp only[if_neg hMb,qh,Addr.add_mid];have ab8:FR g bV sz ((l.take h).drop b) ((vs.take (h*sz)).drop (b*sz)):=by
           have Ig:=dI.1;have hle:h*sz<=l.length*sz:=mq _ (by omega);have hbz:b*sz<=h*sz:=mq _ Ua;refine⟨?_,fun e he=>dI.2.1 e (pn (tM he)),fun v hv=>dI.2.2.1 v (pn (tM hv)),fun i hi j hj oN=>?_⟩
           ·rw[hlen,Nat.sub_mul];simp;omega
           ·have ab:b+i<l.length:=by rw[hlen]at hi;omega
            have HH:((l.take h).drop b)[i]=l[b+i]:=by simp
            have dJ:j<l[b+i].cells.length:=by rw[<-HH];exact hj
            have vw:j<sz:=by rw[<-dI.2.1 _ (df ab)];exact dJ
            have M7:b*sz+(i*sz+j)=(b+i)*sz+j:=by rw[kF];omega
            have:=dI.2.2.2 (b+i) ab j dJ (by rw[Ig];exact DU ab vw);simp only[xZ,BX,M7];simpa only[HH]using this
          refine VR.I0 ab8 hlen (by omega) (HD _ _) (fun q v hq=>?_);have vG:vs[b*sz+q]?=some v:=by
           rw[ak9]at hq;rw[Aa]at hq;split at hq
           ·exact hq
           ·cases hq
          have:=cC _ _ vG;rwa[<-qc]at this
       ·cases hr
      ·cases hr
     ·cases hr
    ·cases hr
   ·rename_i kd id off n cap he;split at hr
    ·cases hr
    have acw:mx=none:=by
     cases mx with
     |none=>rfl
     |some _=>simp only[tV,bE]at jM;obtain⟨_,_,h⟩:=jM;cases h
    subst acw;split at hr
    ·rename_i h C5;split at hr
     ·rename_i b ep;split at hr
      ·rename_i Ug;simp only[bc,az]at hr;obtain⟨rfl,rfl,rfl⟩:=hr;have k1:=ak _ _ hx;rw[he]at k1;have q2:=yl ak xg C5;have q3:=yl ak jL ep;obtain⟨bb,gq,bJ,hid,dP,eD⟩:∃bb gq,a.eval x= .slice (some ⟨bb,off,none⟩) n gq/\g.mb id=some bb/\n<=cap/\cap<=gq:=by
        generalize a.eval x=xv at k1;cases k1 with
        |sl _ _ _ _ _ _ cq bb mE yN aT=>exact⟨bb,cq,rfl,aT,mE,yN⟩
       have hhn:h<=n:=by rcases q2 with⟨_,h⟩|⟨_,_,n,_,_,_,h,h'⟩<;>omega
       have Ua:b<=h:=by rcases q3 with⟨_,h⟩|⟨_,_,n,_,_,_,h,h'⟩<;>omega
       have qD:(Instr.sliceBounds true n gq (lo.map a.eval) (hi.map a.eval) none).run P w= .ok (b,h,gq) w:=by
        rcases q2 with⟨rfl,nV⟩|⟨yh,kh,nh,rfl,s9,vu,nV,uf⟩
        ·rcases q3 with⟨rfl,dt⟩|⟨yb,kb,nb,rfl,qH,gM,dt,dy⟩
         ·subst dt nV;simp[Instr.sliceBounds]
         ·subst dy nV;simp[Instr.sliceBounds,qH,run_sliceBound gM dt]
        ·have hb:(Instr.sliceBound (.int kh nh) gq .sliceAcap).run P w= .ok nh.toNat w:=run_sliceBound vu (by omega);rcases q3 with⟨rfl,dt⟩|⟨yb,kb,nb,rfl,qH,gM,dt,dy⟩
         ·subst dt uf;simp[Instr.sliceBounds,s9,hb]
         ·subst dy uf;simp[Instr.sliceBounds,s9,qH,hb,run_sliceBound gM dt]
       have hA:(if gq=b then some (⟨bb,off,none⟩:Addr)else(some (⟨bb,off,none⟩:Addr)).map (·.add (b*sz)))=some ⟨bb,off+b*sz,none⟩:=by
        split
        ·have:b=0:=by omega
         subst this;simp
        ·simp[Addr.add_mid]
       have dY:(execOp a.eval o).run P w= .ok (.value (.slice (some ⟨bb,off+b*sz,none⟩) (h-b) (gq-b))) w:=by rw[<-hA];simp only[execOp,Ξ,bJ,Instr.sliceAt,Instr.slice,Sem.run_bind,run_underlying hu,Result.andThen_ok,alf,qD,s1,Sem.run_pure]
       exact .pure hm hl ho dY (.sl _ _ _ _ _ _ _ _ (by omega) (by omega) hid)
      ·cases hr
     ·cases hr
    ·cases hr
   ·cases hr
 ·rename_i x' We ab hu hx jL xg jM;cases hc;have UP:mx=none:=by
   cases mx with
   |none=>rfl
   |some _=>simp only[tV,bE]at jM;obtain⟨_,_,h⟩:=jM;cases h
  subst UP;simp only[aH]at hr;split at hr
  ·rename_i s he;split at hr
   ·rename_i h C5;split at hr
    ·rename_i b ep;simp only[bc,az]at hr;obtain⟨rfl,rfl,rfl⟩:=hr;have k1:=ak _ _ hx;rw[he]at k1;have q2:=yl ak xg C5;have q3:=yl ak jL ep;cases bJ:a.eval x<;>rw[bJ]at k1<;>cases k1;rename_i bs fG;have jX:=EJ fG;have qD:(Instr.sliceBounds false bs.size bs.size (lo.map a.eval) (hi.map a.eval) none).run P w= .ok (b,h,bs.size) w:=by
      rcases q2 with⟨rfl,nV⟩|⟨yh,kh,nh,rfl,s9,vu,nV,uf⟩
      ·rcases q3 with⟨rfl,dt⟩|⟨yb,kb,nb,rfl,qH,gM,dt,dy⟩
       ·subst dt nV;simp[Instr.sliceBounds,jX]
       ·subst dy nV;simp[Instr.sliceBounds,qH,run_sliceBound gM dt,jX]
      ·rw[<-jX]at nV;have aT:(Instr.sliceBound (.int kh nh) bs.size .sliceAlen).run P w= .ok nh.toNat w:=run_sliceBound vu nV;rcases q3 with⟨rfl,dt⟩|⟨yb,kb,nb,rfl,qH,gM,dt,dy⟩
       ·subst dt uf;simp[Instr.sliceBounds,s9,aT]
       ·subst dy uf;simp[Instr.sliceBounds,s9,qH,aT,run_sliceBound gM dt]
     refine .pure hm hl ho (x:= .string (bs.extract b h)) ?_ (.str _ _ _ ?_)
     ·simp only[execOp,Ξ,bJ,Instr.sliceAt,Instr.slice,Sem.run_bind,run_underlying hu,Result.andThen_ok,alf,ala,jI,if_false,qD,Sem.run_pure]
     ·rw[<-fG,<-List.map_take,<-List.map_drop];congr 1;simp[ByteArray.data_extract,alc,Qd,z_]
    ·cases hr
   ·cases hr
  ·cases hr
 ·cases hc
theorem agz(ak:eS g lb ev a)(hm:a_ g own LC mem w)(hl:cx g lb own loc w)(ho:bT base own w){x:Operand}{k:Nat}(Ξ:o.op= .extract x k)
  :gI P bf base LC g lb own loc mem w ax ev a o ao v u m':=fun hc hr=>by
 simp only[cQ,Ξ,bE]at hc;obtain⟨x',hx,rfl⟩:=hc;simp only[aH]at hr;split at hr
 ·rename_i l he;simp only[bE,az]at hr;obtain⟨r,hr,rfl,rfl,rfl⟩:=hr;have k1:=ak _ _ hx;rw[he]at k1;obtain⟨χ,rfl⟩:=fu.1 hr;obtain⟨xv,bJ⟩:∃xv,a.eval x=xv:=⟨_,rfl⟩;rw[bJ]at k1;cases k1 with
  |aU _ _ b hs hv=>
   have hk:k<b.size:=by omega
   refine .pure hm hl ho ?_ (hv k χ hk);simp only[execOp,Ξ,bJ,Instr.extract,wq hk];rfl
 ·cases hr
theorem ago(hm:a_ g own LC mem w)(hl:cx g lb own loc w)(ho:bT base own w){e:TypeId}(Ξ:o.op= .alloc e)
  :gI P bf base LC g lb own loc mem w ax ev a o ao v u m':=fun hc hr=>by
 simp only[cQ,Ξ]at hc;split at hc
 ·rename_i d z hd hz;obtain⟨zv,i,hi,fT,gh,kQ,ux,h0,cM,h1⟩:=zT (P:=P) (g:=g) (lb:=lb) (w:=w) hz;split at hc
  ·rename_i be ku;cases hc;simp only[aH,bc,az]at hr;obtain⟨rfl,rfl,rfl⟩:=hr;have hb:PZ P e=some be:=by
    split at ku
    ·exact ku
    ·cases ku
   have zi:zv= .agg #[.pointer none,.slice none 0 0]:=by
    unfold PZ at hb;rw[hi]at hb;simp only[fT]at hb;split at hb
    ·rename_i h2 _;cases h2;rfl
    ·cases hb
   subst zi;exact⟨_,_,.inl (by simp only[execOp,Ξ,Instr.alloc,Sem.run_bind,gh,Result.andThen_ok,Sem.run_pure];rfl),af6 hm hl ho⟩
  cases hc;simp only[aH]at hr;refine⟨_,_,.inl ?_,O4 (e:=e) hm hl ho (cs:=zv.cells) (by rw[kQ,ux]) (fun j hj dJ=>by have:=cM.2 j hj (by simpa using dJ);rwa[ml]at this)
   (fun j hj=>h1 _ (by simp)) hr⟩
  simp only[execOp,Ξ,Instr.alloc,Sem.run_bind,gh,Result.andThen_ok,Sem.run_pure];rfl
 ·cases hc
theorem ags(ak:eS g lb ev a)(hm:a_ g own LC mem w)(hl:cx g lb own loc w)(ho:bT base own w){e:TypeId}{x:Operand}(Ξ:o.op= .box e x)
  :gI P bf base LC g lb own loc mem w ax ev a o ao v u m':=fun hc hr=>by
 simp only[cQ,Ξ]at hc;split at hc
 ·rename_i d n x' hd hn hx;cases hc;simp only[aH]at hr;split at hr
  ·rename_i hlen;obtain⟨s1,s2,-⟩:=pa (P:=P) (w:=w) hn;obtain⟨cM,h1⟩:=Jf (ak _ _ hx) (by omega);refine⟨_,_,.inl ?_,O4 (e:=e) hm hl ho (cs:=(a.eval x).cells) (by simpa using cM.1.symm) (fun j hj dJ=>by have:=cM.2 j hj (by simpa using dJ);rwa[ml]at this)
    (fun j hj=>h1 _ (by simp)) hr⟩
   simp only[execOp,Ξ,Instr.box,Sem.run_bind,Result.andThen_ok,Go.newVar,newRow,run_newObj,Sem.run_pure];rfl
  ·cases hr
 ·cases hc
theorem agF(ak:eS g lb ev a)(hm:a_ g own LC mem w)(hl:cx g lb own loc w)(ho:bT base own w){t:TypeId}{x:Operand}(Ξ:o.op= .load t x)
  :gI P bf base LC g lb own loc mem w ax ev a o ao v u m':=fun hc hr=>by
 simp only[cQ,Ξ]at hc;split at hc
 ·rename_i ag n x' lJ hn hx;cases hc;simp only[aH]at hr;split at hr
  ·rename_i cs n9;simp only[bE,az]at hr;obtain⟨r,hr,rfl,rfl,rfl⟩:=hr;obtain⟨b,off,vs,e1,e2,e3,e4,e5,e6⟩:=Xn hm hl (ak _ _ hx) n9;obtain⟨s1,s2,s3⟩:=pa (P:=P) (w:=w) hn;have C2:=JF (w:=w) lJ;obtain⟨k1,k2⟩:=Kf (a:=vs.toArray) (g:=g) (lb:=lb) ⟨by simp;omega,fun i hi ab=>e5 i hi (by simpa using ab)⟩ (by simpa using e6) hr;have lZ:∀j v,vs[j]?=some v->w.cell? ((⟨b,off,none⟩:Addr).add j)=some v:=fun j v hj=>by rw[Addr.add_mid];exact e4 j v hj
   cases ag with
   |true=>
    refine .pure hm hl ho ?_ (k1 rfl)
    have A9:=run_loadCells_list (P:=P) w ⟨b,off,none⟩ vs lZ;simp only[execOp,Ξ,e1,Instr.loadAt,Instr.sureAddr,Sem.run_bind,Sem.run_pure,Result.andThen_ok,loadVar,C2,if_true,s1];rw[<-e2];simp only[A9,Result.andThen_ok]
   |false=>
    obtain⟨z,hz,xw⟩:=k2 rfl
    have Bf:vs=[z]:=by simpa using hz
    subst Bf;have h0:w.cell? ⟨b,off,none⟩=some z:=by simpa using e4 0 z (by simp)
    refine .pure hm hl ho ?_ xw;simp only[execOp,Ξ,e1,Instr.loadAt,Instr.sureAddr,Sem.run_bind,Sem.run_pure,Result.andThen_ok,loadVar,C2,jI,if_false,run_load,h0]
  ·cases hr
 ·cases hc
theorem agT(ak:eS g lb ev a)(hm:a_ g own LC mem w)(hl:cx g lb own loc w)(ho:bT base own w){t:TypeId}{x y:Operand}(Ξ:o.op= .store t x y)
  :gI P bf base LC g lb own loc mem w ax ev a o ao v u m':=fun hc hr=>by
 simp only[cQ,Ξ]at hc;split at hc
 ·rename_i n x' y' hn hx hy;cases hc;simp only[aH]at hr;split at hr
  ·rename_i hlen;simp only[bE,az,Prod.exists]at hr;obtain⟨u1,m1,hw,rfl,rfl,rfl⟩:=hr;obtain⟨s1,s2,-⟩:=pa (P:=P) (w:=w) hn;obtain⟨cM,h1⟩:=Jf (ak _ _ hy) (by omega);obtain⟨b,off,cur,e,e1,e2,e3,e4⟩:=P5 hm hl ho (ak _ _ hx) cM h1 hw;refine⟨undef,_,.inr ⟨?_,rfl⟩,e4⟩;have aJ:(a.eval y).cells.size=n:=by have:=cM.1;simp at this;omega
   have Ω:=run_storeCells_at P b off e (a.eval y).cells.toList 0 cur w e2 (by simpa using e3) h1;simp only[execOp,Ξ,e1,Instr.storeAt,Instr.sureAddr,Sem.run_bind,Sem.run_pure,Result.andThen_ok,storeVar,s1,aJ];rw[if_neg (by simp)];simp only[Ω,Result.andThen_ok,qd];rfl
  ·cases hr
 ·cases hc
end
section
variable{P:Program}{base:Nat}{LC:eX}{g:Gh}{lb:LB}{own:OW}{loc:Nat->Option (Nat×θ)}{mem:Mem}{w:World}{bf:Nat->Bool}{ax:cu}
variable{ev:bw->AV}{a:Act}{o:Oper}{ao:AO}{v:AV}{u:kG}{m':Mem}
theorem SW(sz:Nat):∀(parts:List (Nat×Operand)) (k:Nat) (xs:List Operand) (cs:Array Value),FJ k parts=some xs->(∀x∈xs,(a.eval x).cells.size=sz)->(k+xs.length)*sz<=cs.size→
  ∃ws:Array Value,Instr.fill (fun i=>some (i*sz,sz)) cs (parts.map fun(i,x)=>(i,a.eval x))=some ws∧
   ws.toList=cs.toList.take (k*sz)++(xs.map fun x=>(a.eval x).cells.toList).flatten++cs.toList.drop ((k+xs.length)*sz)
 |[],k,xs,cs,h,_,_=>by cases h;exact⟨cs,rfl,by simp⟩
 |(i,x)::parts,k,xs,cs,h,hs,hle=>by
  simp only[FJ]at h;split at h
  ·rename_i ug;subst ug;simp only[bE]at h;obtain⟨ys,hy,rfl⟩:=h;have hx:(a.eval x).cells.size=sz:=hs x (by simp);simp only[cE]at hle;have UF:i*sz+sz<=cs.size:=by have:(i+1)*sz<=(i+(ys.length+1))*sz:=mq _ (by omega);rw[kF]at this;omega
   let tD:Array Value:=(a.eval x).cells.zipIdx.foldl (fun cs (c,j)=>cs.setIfInBounds (i*sz+j) c) cs;have DN:tD.toList=cs.toList.take (i*sz)++(a.eval x).cells.toList++cs.toList.drop (i*sz+sz):=by have h:=LO (i*sz) (a.eval x).cells.toList 0 cs (by simp only[wu,hx];omega);simp only[qd,wu,hx]at h;rw[<-h];simp only[tD,<-ald,ale]
   have DK:tD.size=cs.size:=by have:=congrArg List.length DN;simp[hx]at this;omega
   have HW:(i+1+ys.length)*sz<=tD.size:=by
    have:i+1+ys.length=i+(ys.length+1):=by omega
    rw[DK,this];exact hle
   obtain⟨ws,e1,e2⟩:=SW sz parts (i+1) ys tD hy (fun y hy=>hs y (by simp[hy])) HW;refine⟨ws,?_,?_⟩
   ·simp only[aA,Instr.fill];rw[if_neg (by simp[hx];omega)];exact e1
   ·rw[e2,DN];have h1:(i+1)*sz=i*sz+sz:=by rw[kF,Nat.one_mul]
    have h2:(i+1+ys.length)*sz=i*sz+sz+ys.length*sz:=by rw[kF,h1]
    have h3:(i+(ys.length+1))*sz=i*sz+sz+ys.length*sz:=by rw[kF,kF,Nat.one_mul];omega
    have hl:(cs.toList.take (i*sz)++(a.eval x).cells.toList).length=i*sz+sz:=by simp[hx];omega
    rw[h1,h2];simp only[aA,List.flatten_cons,cE,h3];rw[List.take_append_of_le_length (by rw[hl];exact bA _),fw (by rw[hl];exact bA _)];rw[List.drop_append,hl,alg (by rw[hl];omega)];simp[bH]
  ·cases h
theorem FR.flatten{sz:Nat}(h0:0<sz):∀(l:List AV) (m:List Value),PW (VR g lb) l m->(∀e∈l,e.cells.length=sz)->FR g lb sz l (m.map fun x=>x.cells.toList).flatten
 |[],[],_,_=>FR.nil sz
 |[],_::_,h,_=>by have:=h.1;simp at this
 |_::_,[],h,_=>by have:=h.1;simp at this
 |e::l,x::m,h,hs=>by have h1:=FR.one (g:=g) (lb:=lb) (h.2 0 (by simp) (by simp)) (hs e (by simp)) h0;have h2:=FR.flatten h0 l m ⟨by have:=h.1;simpa using this,fun i hi ab=>by have:=h.2 (i+1) (by simpa using hi) (by simpa using ab);simpa using this⟩ (fun e he=>hs e (by simp[he]));have:=h1.append h2;simpa using this
theorem agt(ak:eS g lb ev a)(hm:a_ g own LC mem w)(hl:cx g lb own loc w)(ho:bT base own w){t:TypeId}{len:Nat}{parts:Array (Nat×Operand)}(Ξ:o.op= .buildSlice t len parts)
  :gI P bf base LC g lb own loc mem w ax ev a o ao v u m':=fun hc hr=>by
 simp only[cQ,Ξ]at hc;split at hc
 ·rename_i e xs hu hd;split at hc
  ·rename_i sz ag z wo aJ lJ hz Vp;split at hc
   ·rename_i hlen;obtain⟨hlen,akH⟩:=hlen;cases hc;simp only[aH]at hr;split at hr
    ·rename_i jv;simp only[bc,az]at hr;obtain⟨rfl,rfl,rfl⟩:=hr;simp only[dS]at jv;obtain⟨s1,h0,s3⟩:=pa (P:=P) (w:=w) aJ;obtain⟨zv,i,hi,fT,gh,kQ,ux,sR,-,-⟩:=zT (P:=P) (g:=g) (lb:=lb) (w:=w) hz;have akU:i.size=sz:=by rw[hi]at s3;simpa using s3
     have cM:=FU ak Vp;have eh:∀e∈wo.map ev,e.cells.length=sz:=fun e he=>by obtain⟨x,hx,rfl⟩:=eT.1 he;exact Jr (jv x hx)
     have rT:xs.length=wo.length:=by have:=cM.1;simp at this;omega
     have Um:∀x∈xs,(a.eval x).cells.size=sz:=fun x hx=>by
      obtain⟨j,hj,rfl⟩:=pj.1 hx;have dJ:j<wo.length:=by omega
      have xw:=cM.2 j (by simpa using dJ) (by simpa using hj);simp only[iY]at xw;have hc:=eh (ev wo[j]) (eT.2 ⟨_,df dJ,rfl⟩);have:=(Jf xw (by omega)).1.1;simp at this;omega
     let init:Array Value:=(alh (len*sz)).map (zv.cells[· % zv.cells.size]!);obtain⟨ws,e1,e2⟩:=SW (a:=a) sz parts.toList 0 xs init hd Um (by simp[init,hlen]);have DP:ws.toList=(xs.map fun x=>(a.eval x).cells.toList).flatten:=by rw[e2];have:init.toList.drop ((0+xs.length)*sz)=[]:=alg (by simp[init,hlen]);rw[this];simp
     have dI:FR g bV sz (wo.map fun x=>mem.ν (ev x)) ws.toList:=by rw[DP];have h1:=(FR.flatten h0 (wo.map ev) (xs.map a.eval) cM eh).ν hm;simpa[dc,Function.comp_def]using h1
     have oU:=aiS (e:=e) hm hl ho dI;have aci:(wo.map fun x=>mem.ν (ev x)).length=len:=by simp;omega
     rw[aci]at oU;refine⟨_,_,.inl ?_,oU⟩;have yW:(parts.map fun(i,x)=>(i,a.eval x)).toList=parts.toList.map fun(i,x)=>(i,a.eval x):=by simp
     by_cases xk:len*sz=0
     ·have acb:init=(alh (len*sz)).map ((#[]:Array Value)[· % (#[]:Array Value).size]!):=by simp[init,xk]
      simp only[execOp,Ξ,Instr.buildSlice,Sem.run_bind,run_underlying hu,Result.andThen_ok,s1];rw[if_neg (by omega),if_pos xk];simp only[Sem.run_bind,Sem.run_pure,Result.andThen_ok,yW];rw[<-acb,e1];simp only[newRow,run_newObj,Sem.run_bind,Result.andThen_ok,Sem.run_pure];rfl
     ·simp only[execOp,Ξ,Instr.buildSlice,Sem.run_bind,run_underlying hu,Result.andThen_ok,s1];rw[if_neg (by omega),if_neg xk];simp only[Sem.run_bind,gh,Sem.run_pure,Result.andThen_ok,yW];have e1':Instr.fill (fun i=>some (i*sz,sz)) ((alh (len*sz)).map (zv.cells[· % zv.cells.size]!)) (parts.toList.map fun(i,x)=>(i,a.eval x))=some ws:=e1;rw[e1'];simp only[newRow,run_newObj,Sem.run_bind,Result.andThen_ok,Sem.run_pure];rfl
    ·cases hr
   ·cases hc
  ·cases hc
 ·cases hc
theorem WG(ak:eS g lb ev a)(hm:a_ g own LC mem w)(hl:cx g lb own loc w)(ho:bT base own w){c:Call}(Ξ:o.op= .call c)(hb:c.callee= .builtin .max\/c.callee= .builtin .min)
  :gI P bf base LC g lb own loc mem w ax ev a o ao v u m':=fun hc hr=>by
 have key:∃x y x' y',c.args.toList=[x,y]/\cB x=some x'/\cB y=some y'/\((c.callee= .builtin .max/\ao= .max x' y')\/(c.callee= .builtin .min/\ao= .min x' y')):=by
  rcases hb with hb|hb<;>simp only[cQ,Ξ,hb]at hc
  all_goals
   split at hc
   ·rename_i x y NZ;split at hc
    ·rename_i x' y' hx hy;cases hc;exact⟨x,y,x',y',NZ,hx,hy,by simp[hb]⟩
    ·cases hc
   ·cases hc
 obtain⟨x,y,x',y',NZ,hx,hy,nR⟩:=key;have iG:(c.args.map a.eval)= #[a.eval x,a.eval y]:=by
  have:(c.args.map a.eval).toList=[a.eval x,a.eval y]:=by simp[NZ]
  rw[<-uW (xs:=c.args.map a.eval),this]
 rcases nR with⟨hb,rfl⟩|⟨hb,rfl⟩
 all_goals
  simp only[aH]at hr;split at hr
  ·rename_i k p k' q e1 e2;split at hr
   ·rename_i hk;subst hk;simp only[bc,az]at hr;obtain⟨rfl,rfl,rfl⟩:=hr;have k1:=ak _ _ hx;have k2:=ak _ _ hy;rw[e1]at k1;rw[e2]at k2;refine .pure hm hl ho ?_ (.int _ _ _);simp only[execOp,Ξ,resolve,hb,iG,uR k1,uR k2,Sem.run_bind,Sem.run_pure,Result.andThen_ok,invoke,builtin,Builtin.max_,Builtin.min_];rfl
   ·cases hr
  ·cases hr
end
section
variable{P:Program}{base:Nat}{LC:eX}{g:Gh}{lb:LB}{own:OW}{loc:Nat->Option (Nat×θ)}{mem:Mem}{w:World}{bf:Nat->Bool}{ax:cu}
variable{ev:bw->AV}{a:Act}{o:Oper}{ao:AO}{v:AV}{u:kG}{m':Mem}
theorem IS(hm:a_ g own LC mem w){id:Nat}{es:List (AV×AV)}{x:Value}(hx:VR g lb (.map id) x)(hb:mem.ε[id]?=some (.map es)):
  ∃(b:Nat) (dn:Array MapEntry) (clock:Nat),x= .map (some b)/\g.mb id=some b/\own b=some (.m id)/\(∀o,g.im b o=none)/\w.heap[b]?=some (.map dn clock)/\dn.size=es.length∧
   (∀i (h:i<es.length) (h':i<dn.size),VR g bV es[i].1 dn[i].key/\VR g bV es[i].2 dn[i].val)/\∀p∈es,plain p.1=true/\plain p.2=true:=by
 cases hx with
 |map _ _ b h=>
  obtain⟨b',h1,h2,h3,dn,clock,h4,h5,h6,h7⟩:=hm.blk id _ hb
  rw[h]at h1;cases h1;exact⟨b,dn,clock,rfl,h,h2,h3,h4,h5,h6,h7⟩
theorem run_getObj_map{b:Nat}{dn:Array MapEntry}{clock:Nat}(h:w.heap[b]?=some (.map dn clock)):(getObj b).run P w= .ok (.map dn clock) w:=by simp only[getObj,Sem.run,h]
theorem agG(ak:eS g lb ev a)(hm:a_ g own LC mem w)(hl:cx g lb own loc w)(ho:bT base own w){c:Call}(Ξ:o.op= .call c)(hb:c.callee= .builtin .len)
  :gI P bf base LC g lb own loc mem w ax ev a o ao v u m':=fun hc hr=>by
 simp only[cQ,Ξ,hb]at hc;split at hc
 ·rename_i x t iG s8;have nS:(c.args.map a.eval)= #[a.eval x]:=by
   have:(c.args.map a.eval).toList=[a.eval x]:=by simp[iG]
   rw[<-uW (xs:=c.args.map a.eval),this]
  have pV:c.argTypes= #[t]:=by rw[<-uW (xs:=c.argTypes),s8]
  have dY:∀y w',(Builtin.len_ #[t] o.type #[a.eval x]).run P w= .ok y w'->(execOp a.eval o).run P w= .ok (.value y) w':=fun y w' h=>by simp only[execOp,Ξ,resolve,hb,nS,pV,Sem.run_bind,Sem.run_pure,Result.andThen_ok,invoke,builtin,h]
  split at hc
  ·rename_i x' hu hx;cases hc;have k1:=ak _ _ hx;obtain⟨xv,bJ⟩:∃xv,a.eval x=xv:=⟨_,rfl⟩;rw[bJ]at k1;simp only[aH]at hr;split at hr
   ·rename_i s e1;simp only[bc,az]at hr;obtain⟨rfl,rfl,rfl⟩:=hr;rw[e1]at k1;cases k1 with
    |str _ bs _ fG=>
     refine .pure hm hl ho (dY (.int .i64 bs.size) w ?_) (by rw[EJ fG];exact .int _ _ _)
     simp[bJ,Builtin.len_,run_underlying hu,goInt]
   ·cases hr
  ·rename_i e x' hu hx;cases hc;have k1:=ak _ _ hx;obtain⟨xv,bJ⟩:∃xv,a.eval x=xv:=⟨_,rfl⟩;rw[bJ]at k1;simp only[aH]at hr;split at hr
   ·rename_i c' l e1;simp only[bc,az]at hr;obtain⟨rfl,rfl,rfl⟩:=hr;rw[e1]at k1;have hs:∃A cap,xv= .slice A l.length cap:=by
     cases k1 with
     |iS=>exact⟨_,_,rfl⟩
     |iw=>exact⟨_,_,rfl⟩
     |list _ _ _ b o sz n cap xs hn=>subst hn;exact⟨_,_,rfl⟩
    obtain⟨A,cap,rfl⟩:=hs;refine .pure hm hl ho (dY (.int .i64 l.length) w ?_) (.int _ _ _);simp[bJ,Builtin.len_,run_underlying hu,goInt]
   ·rename_i id off n cp e1;simp only[bc,az]at hr;obtain⟨rfl,rfl,rfl⟩:=hr;rw[e1]at k1;cases k1;refine .pure hm hl ho (dY (.int .i64 n) w ?_) (.int _ _ _);simp[bJ,Builtin.len_,run_underlying hu,goInt]
   ·cases hr
  ·rename_i k e x' hu hx;cases hc;have k1:=ak _ _ hx;obtain⟨xv,bJ⟩:∃xv,a.eval x=xv:=⟨_,rfl⟩;rw[bJ]at k1;simp only[aH]at hr;split at hr
   ·rename_i e1;simp only[bc,az]at hr;obtain⟨rfl,rfl,rfl⟩:=hr;rw[e1]at k1;cases k1;refine .pure hm hl ho (dY (.int .i64 0) w ?_) (.int _ _ _);simp[bJ,Builtin.len_,run_underlying hu,goInt]
   ·rename_i id e1;split at hr
    ·rename_i es he;simp only[bc,az]at hr;obtain⟨rfl,rfl,rfl⟩:=hr;rw[e1]at k1;obtain⟨b,dn,clock,rfl,-,-,-,h4,h5,-⟩:=IS hm k1 he;refine .pure hm hl ho (dY (.int .i64 es.length) w ?_) (.int _ _ _);simp[bJ,Builtin.len_,run_underlying hu,goInt,run_getObj_map h4,h5]
    ·cases hr
   ·cases hr
  ·rename_i n e x' hu hx;cases hc;simp only[aH,bc,az]at hr;obtain⟨rfl,rfl,rfl⟩:=hr;refine .pure hm hl ho (dY (.int .i64 n) w ?_) (.int _ _ _);generalize a.eval x=xv;cases xv<;>simp[Builtin.len_,run_underlying hu,goInt]
  ·cases hc
 ·cases hc
theorem agp(ak:eS g lb ev a)(hm:a_ g own LC mem w)(hl:cx g lb own loc w)(ho:bT base own w){c:Call}(Ξ:o.op= .call c)(hb:c.callee= .builtin .append)
  (hc:cQ P bf o=some ao) (jW:∀ag sz bytes e x y,ao≠ .appm ag sz bytes e x y) (hr:aH ev loc mem ax o.dst ao=some (v,u,m')):ra P base LC g lb own loc w a o v u m':=by
 simp only[cQ,Ξ,hb]at hc;split at hc
 ·rename_i x y t t' iG s8;split at hc
  ·rename_i e x' y' hu hx hy;split at hc
   ·rename_i i ag z hi lJ hz;split at hc
    ·rename_i mH;subst mH;by_cases mF:AB bf o.dst=true
     ·rw[if_pos mF]at hc;cases hc;exact absurd rfl (jW _ _ _ _ _ _)
     rw[if_neg mF]at hc;cases hc;have nS:(c.args.map a.eval)= #[a.eval x,a.eval y]:=by
      have:(c.args.map a.eval).toList=[a.eval x,a.eval y]:=by simp[iG]
      rw[<-uW (xs:=c.args.map a.eval),this]
     have pV:c.argTypes= #[t,t]:=by rw[<-uW (xs:=c.argTypes),s8]
     simp only[aH,bE,az,Prod.exists]at hr;obtain⟨r,m1,hr,rfl,rfl,rfl⟩:=hr;obtain⟨zv,i',ab,fT,gh,kQ,-,-,-,-⟩:=zT (P:=P) (g:=g) (lb:=lb) (w:=w) hz;rw[hi]at ab;cases ab;obtain⟨xr,w',h1,h2⟩:=Qv (P:=P) (ty:=o.type) hm hl ho (ak _ _ hx) (ak _ _ hy) hu hi fT kQ hr;refine⟨xr,w',.inl ?_,h2⟩;simp only[execOp,Ξ,resolve,hb,nS,pV,Sem.run_bind,Sem.run_pure,Result.andThen_ok,invoke,builtin,h1]
    ·cases hc
   ·cases hc
  ·cases hc
 ·cases hc
theorem Im{kk:KK}{kt:TypeId}(hk:pW P kt=some kk){k:AV}{kv:Value}(m_:isKey kk k=true)(hv:VR g lb k kv)(em:Bool):
  (Instr.checkKey em 10000 kt kv).run P w= .ok () w/\∃d,P.underlying kt=some d/\∀(k':AV) (xD:Value) (r:Bool),VR g bV k' xD->jO k k'=some r->Instr.sameNow d kv xD=some r:=by
 have dz:∀d,P.underlying kt=some d->(∀ms,d≠ .interface ms)->(∀n e,d≠ .array n e)->(∀fs,d≠ .struct fs)->∀n,(Instr.checkKey em (n+1) kt kv).run P w= .ok () w:=by intro d hu h1 h2 h3 n;simp only[Instr.checkKey,Sem.run_bind,run_underlying hu,Result.andThen_ok];cases d<;>first|rfl|exact absurd rfl (h1 _)|exact absurd rfl (h2 _ _)|exact absurd rfl (h3 _)
 unfold pW at hk;split at hk
 ·rename_i q hu;cases hk;refine⟨dz _ hu (by simp) (by simp) (by simp) 9999,_,hu,fun k' xD r nj hr=>?_⟩;cases k<;>simp[isKey]at m_;cases hv;cases k'<;>simp[jO]at hr;cases nj;simp only[Instr.sameNow];obtain⟨fb,rfl⟩:=hr;rw[if_pos fb];rfl
 ·rename_i hu;cases hk;refine⟨dz _ hu (by simp) (by simp) (by simp) 9999,_,hu,fun k' xD r nj hr=>?_⟩;cases k<;>simp[isKey]at m_;cases hv;rename_i s bs fG;cases k'<;>simp[jO]at hr;cases nj;rename_i s' kI abL;simp only[Instr.sameNow];subst hr;rw[beq_toListBytes,PU fG abL]
 ·rename_i hu;cases hk;refine⟨dz _ hu (by simp) (by simp) (by simp) 9999,_,hu,fun k' xD r nj hr=>?_⟩;cases k<;>simp[isKey]at m_;cases hv;cases k'<;>simp[jO]at hr;cases nj;simp only[Instr.sameNow];subst hr;rfl
 ·cases hk
def posOf(k:AV):List (AV×AV)->Nat->Option (Nat×AV)
 |[],_=>none
 |(k',v)::l,i=>if jO k k'=some true then some (i,v)else posOf k l (i+1)
theorem FZ{kv:Value}{d:TypeDesc}{k:AV}(hs:∀(k':AV) (xD:Value) (r:Bool),VR g bV k' xD->jO k k'=some r->Instr.sameNow d kv xD=some r):
  ∀(es:List (AV×AV)) (dn:List MapEntry) (i:Nat),es.length=dn.length->(∀j (h:j<es.length) (h':j<dn.length),VR g bV es[j].1 dn[j].key/\VR g bV es[j].2 dn[j].val)→
  jD k es≠none->((jD k es=some none/\Instr.findNow d kv dn i=some none/\posOf k es i=none)∨
   ∃j v,jD k es=some (some v)/\posOf k es i=some (i+j,v)/\∃(h:j<es.length) (h':j<dn.length),v=es[j].2/\Instr.findNow d kv dn i=some (some (i+j,dn[j].val)))
 |[],[],i,_,_,_=> .inl ⟨rfl,rfl,rfl⟩
 |[],_::_,_,h,_,_=>by simp at h
 |_::_,[],_,h,_,_=>by simp at h
 |(k',v)::es,e::dn,i,hlen,hv,τ=>by
  have h0:=hv 0 (by simp) (by simp);simp only[lE]at h0;simp only[jD]at τ⊢;cases hk:jO k k' with
  |none=>rw[hk]at τ;exact absurd rfl τ
  |some r=>
   rw[hk]at τ
   have lP:=hs _ _ r h0.1 hk;cases r with
   |true=>exact .inr ⟨0,v,rfl,by simp[posOf,hk],by simp,by simp,rfl,by simp[Instr.findNow,lP]⟩
   |false=>
    dsimp only at τ⊢
    have ih:=FZ hs es dn (i+1) (by simpa using hlen) (fun j h h'=>by have:=hv (j+1) (by simpa using h) (by simpa using h');simpa using this) τ;rcases ih with⟨h1,h2,h3⟩|⟨j,v',h1,h2,h3,h4,h5,h6⟩
    ·exact .inl ⟨h1,by simp[Instr.findNow,lP,h2],by simp[posOf,hk,h3]⟩
    ·refine .inr ⟨j+1,v',h1,?_,by simpa using h3,by simpa using h4,by simpa using h5,?_⟩
     ·simp only[posOf,hk];rw[if_neg (by simp),h2];simp;omega
     ·simp only[Instr.findNow,lP,h6,List.getElem_cons_succ];simp;omega
theorem zL{kv:Value}{kt:TypeId}{d:TypeDesc}{l:List MapEntry}{r:Option (Nat×Value)}(hu:P.underlying kt=some d)(h:Instr.findNow d kv l 0=some r):(Instr.findKey kt kv l).run P w= .ok r w:=by simp only[Instr.findKey,Sem.run_bind,run_underlying hu,Result.andThen_ok,h,Sem.run_pure]
theorem agH(ak:eS g lb ev a)(hm:a_ g own LC mem w)(hl:cx g lb own loc w)(ho:bT base own w){t:TypeId}{x y:Operand}{ok:Bool}(Ξ:o.op= .lookup t x y ok)
  :gI P bf base LC g lb own loc mem w ax ev a o ao v u m':=fun hc hr=>by
 simp only[cQ,Ξ]at hc;split at hc
 ·rename_i kt e x' y' hu hx hy;split at hc
  ·rename_i z kk hz fb;cases hc;obtain⟨zv,DT,zi⟩:∃zv,(zeroValue e).run P w= .ok zv w/\VR g lb z zv:=by
    unfold X7 at hz;split at hz
    ·rename_i i hi;split at hz
     ·rename_i zv Od;exact⟨zv,by simp[zeroValue,typeInfo,hi,Od],Kc hz⟩
     ·cases hz
    ·cases hz
   have gG:∀(g:Gh) (x:AV) (y:Value),VR g bV x y->VR g lb x y:=fun g x y h=>h.mono g.eP fun _ _ _ h=>by cases h
   have NC:∀{r:AV} {rv:Value} {b:Bool},VR g lb r rv->VR g lb (if ok then .aU [r,.bool b]else r) (if ok then .tuple #[rv,.bool b]else rv):=fun{r rv b} h=>by
    cases ok
    ·exact h
    ·refine .aU _ _ _ rfl fun i hi ab=>?_
     match i,hi with
     |0,_=>exact h
     |1,_=>exact .bool _ _
   simp only[aH]at hr;split at hr
   ·rename_i e1;split at hr
    ·rename_i m_;simp only[bc,az]at hr;obtain⟨rfl,rfl,rfl⟩:=hr;obtain⟨dz,d,uw,-⟩:=Im (P:=P) (w:=w) fb m_ (ak _ _ hy) true;have k1:=ak _ _ hx;rw[e1]at k1;obtain⟨xv,bJ⟩:∃xv,a.eval x=xv:=⟨_,rfl⟩;rw[bJ]at k1;cases k1;have qv:(Instr.findKey kt (a.eval y) []).run P w= .ok none w:=zL uw rfl;refine .pure hm hl ho ?_ (NC (b:=false) zi);simp only[execOp,Ξ,bJ,Instr.lookup,Sem.run_bind,run_underlying hu,Result.andThen_ok,Sem.run_pure];simp only[Array.isEmpty,Array.size_empty,decide_true,dz,Result.andThen_ok,qv,Sem.run_bind,DT,Sem.run_pure]
    ·cases hr
   ·rename_i id e1;split at hr
    ·rename_i es he;split at hr
     ·rename_i m_;simp only[bE]at hr;obtain⟨fr,dI,hr⟩:=hr;have k1:=ak _ _ hx;rw[e1]at k1;obtain⟨xv,bJ⟩:∃xv,a.eval x=xv:=⟨_,rfl⟩;rw[bJ]at k1;obtain⟨b,dn,clock,rfl,h2,h3,h4,h5,h6,h7,-⟩:=IS hm k1 he;obtain⟨dz,d,uw,lP⟩:=Im (P:=P) (w:=w) fb m_ (ak _ _ hy) dn.isEmpty;have nU:=FZ lP es dn.toList 0 (by simpa using h6.symm) (fun j h h'=>by have:=h7 j h (by simpa using h');simpa using this) (by rw[dI];simp);rcases nU with⟨f1,f2,-⟩|⟨j,v',f1,-,f3,f4,f5,f6⟩
      ·rw[dI]at f1;cases f1;simp only[az]at hr;obtain⟨rfl,rfl,rfl⟩:=hr;have qv:(Instr.findKey kt (a.eval y) dn.toList).run P w= .ok none w:=zL uw f2;refine .pure hm hl ho ?_ (NC (b:=false) zi);simp only[execOp,Ξ,bJ,Instr.lookup,Sem.run_bind,run_underlying hu,Result.andThen_ok,run_getObj_map h5,Sem.run_pure,dz,qv,DT]
      ·rw[dI]at f1;cases f1;simp only[az]at hr;obtain⟨rfl,rfl,rfl⟩:=hr;subst f5;have vN:=(h7 j f3 (by simpa using f4)).2;have qv:(Instr.findKey kt (a.eval y) dn.toList).run P w= .ok (some (0+j,dn.toList[j].val)) w:=zL uw f6;refine .pure hm hl ho ?_ (NC (b:=true) (gG _ _ _ vN));simp only[execOp,Ξ,bJ,Instr.lookup,Sem.run_bind,run_underlying hu,Result.andThen_ok,run_getObj_map h5,Sem.run_pure,dz,qv,ml]
     ·cases hr
    ·cases hr
   ·cases hr
  ·cases hc
 ·cases hc
theorem Wq{k v:AV}:∀(es r:List (AV×AV)) (i:Nat),uC k v es=some r->(jD k es=some none/\posOf k es i=none/\r=es++[(k,v)])∨
  ∃j v',jD k es=some (some v')/\posOf k es i=some (i+j,v')/\(∃h:j<es.length,jO k es[j].1=some true)/\r=es.set j (k,v)
 |[],r,i,h=>by cases h;exact .inl ⟨rfl,rfl,rfl⟩
 |(k',v')::es,r,i,h=>by
  simp only[uC]at h;cases hk:jO k k' with
  |none=>rw[hk]at h;cases h
  |some t=>
   rw[hk]at h
   cases t with
   |true=>cases h;exact .inr ⟨0,v',by simp[jD,hk],by simp[posOf,hk],⟨by simp,hk⟩,rfl⟩
   |false=>
    simp only[bE]at h
    obtain⟨r',h,rfl⟩:=h;rcases Wq es r' (i+1) h with⟨h1,h2,rfl⟩|⟨j,v2,h1,h2,⟨h3,ft⟩,rfl⟩
    ·exact .inl ⟨by simp[jD,hk,h1],by simp[posOf,hk,h2],rfl⟩
    ·exact .inr ⟨j+1,v2,by simp[jD,hk,h1],by simp[posOf,hk,h2];omega,⟨by simpa using h3,by simpa using ft⟩,rfl⟩
theorem Wk{k:AV}:∀(es r:List (AV×AV)) (i:Nat),xF k es=some r->(jD k es=some none/\posOf k es i=none/\r=es)∨
  ∃j v',jD k es=some (some v')/\posOf k es i=some (i+j,v')/\j<es.length/\r=es.eraseIdx j
 |[],r,i,h=>by cases h;exact .inl ⟨rfl,rfl,rfl⟩
 |(k',v')::es,r,i,h=>by
  simp only[xF]at h;cases hk:jO k k' with
  |none=>rw[hk]at h;cases h
  |some t=>
   rw[hk]at h
   cases t with
   |true=>cases h;exact .inr ⟨0,v',by simp[jD,hk],by simp[posOf,hk],by simp,rfl⟩
   |false=>
    simp only[bE]at h
    obtain⟨r',h,rfl⟩:=h;rcases Wk es r' (i+1) h with⟨h1,h2,rfl⟩|⟨j,v2,h1,h2,h3,rfl⟩
    ·exact .inl ⟨by simp[jD,hk,h1],by simp[posOf,hk,h2],rfl⟩
    ·exact .inr ⟨j+1,v2,by simp[jD,hk,h1],by simp[posOf,hk,h2];omega,by simpa using h3,rfl⟩
def fJ(w:World)(b:Nat)(o:Obj):World:= {w with heap:=w.heap.setIfInBounds b o}
theorem ED(hm:a_ g own LC mem w)(hl:cx g lb own loc w)(ho:bT base own w){id b:Nat}{x:Obj}{blk:θ}(hb:own b=some (.m id))(hid:id<mem.ε.length)
  (cC:∀o,g.im b o=none) (sU:tF g own LC (fJ w b x) id blk):
  h_ base LC g lb own loc w .undef none (mem.put id blk true) undef (fJ w b x):=by
 have jy:∀b',b'≠b->(fJ w b x).heap[b']?=w.heap[b']?:=fun b' τ=>by simp only[fJ];rw[JP (Ne.symm τ)]
 refine⟨g,lb,own,⟨g.eP,by simp[fJ],rfl,rfl,rfl,fun b' _ ho=>jy b' (by rintro rfl;rw[hb]at ho;cases ho),fun _ _ h=>h,fun _ _ _ _=>rfl⟩,fun _ _ _ h=>h,.undef _,?_,?_,?_⟩
 ·refine hm.ER hid g.eP (fun _ h=>h) (fun _ _ _ h=>h) (fun mI b' τ aT=>⟨rfl,jy b' ?_,fun _=>rfl⟩) sU (fun b' o y hy=>?_)
  ·rintro rfl;rw[hb]at aT;cases aT;exact τ rfl
  ·have τ:b'≠b:=by rintro rfl;rw[cC]at hy;cases hy
   rw[qj (jy b' τ)];exact hm.im _ _ _ hy
 ·exact hl.bm g.eP fun d b' aT=>⟨rfl,jy b' (by rintro rfl;rw[hb]at aT;cases aT),fun _=>rfl⟩
 ·exact⟨fun b' o aT=>by simpa[fJ]using ho.ge b' o aT,by simpa[fJ]using ho.base⟩
theorem run_setObj_map{b:Nat}{dn:Array MapEntry}{clock:Nat}(h:w.heap[b]?=some (.map dn clock))(x:Obj):(setObj b x).run P w= .ok () (fJ w b x):=by simp only[setObj,Sem.run,h];rfl
theorem BH{b:Nat}{y:Obj}(h:w.heap[b]?=some y)(x:Obj):(fJ w b x).heap[b]?=some x:=by have χ:=(zX.1 h).1;simp[fJ,χ]
end
mutual
theorem CH(n:Nat)(k:Bool):∀v:AV,plain v=true->exp n k v=v
 | .undef,_=>rfl
 | .cU,_=>rfl
 | .int _ _,_=>rfl
 | .bool _,_=>rfl
 | .str _,_=>rfl
 | .iU,_=>rfl
 | .aj _ _ _,h=>by simp[plain]at h
 | .μ _ _,h=>by simp[plain]at h
 | .ref _,h=>by simp[plain]at h
 | .list c l,h=>by simp only[plain,dW,xU,decide_eq_true_eq]at h;obtain⟨rfl|rfl,h⟩:=h<;>simp only[exp,ξ.exp,FX n k l h]
 | .sl _ _ _ _ _,h=>by simp[plain]at h
 | .agg l,h=>by simp only[plain]at h;simp only[exp,FX n k l h]
 | .aU l,h=>by simp only[plain]at h;simp only[exp,FX n k l h]
 | .fn (.func f) [] [],_=>rfl
 | .fn (.func f) (_::_) _,h=>by simp[plain]at h
 | .fn (.func f) [] (_::_),h=>by simp[plain]at h
 | .fn (.method _) _ _,h=>by simp[plain]at h
 | .fn (.methodOf _ _) _ _,h=>by simp[plain]at h
 | .fn (.via _ _ _ _) _ _,h=>by simp[plain]at h
 | .fn (.yield _) _ _,h=>by simp[plain]at h
 | .fV,_=>rfl
 | .iface t v,h=>by simp only[plain]at h;simp only[exp,CH n k v h]
 | .gx,_=>rfl
 | .map _,h=>by simp[plain]at h
 | .gY,_=>rfl
theorem FX(n:Nat)(k:Bool):∀l:List AV,sd l=true->bn n k l=l
 |[],_=>rfl
 |v::l,h=>by simp only[sd,dW]at h;simp only[bn,CH n k v h.1,FX n k l h.2]
end
mutual
theorem Wf(n:Nat):∀v:AV,plain v=true->lo n v=true
 | .undef,_=>rfl
 | .cU,_=>rfl
 | .int _ _,_=>rfl
 | .bool _,_=>rfl
 | .str _,_=>rfl
 | .iU,_=>rfl
 | .aj _ _ _,h=>by simp[plain]at h
 | .μ _ _,h=>by simp[plain]at h
 | .ref _,h=>by simp[plain]at h
 | .list c l,h=>by simp only[plain,dW,xU,decide_eq_true_eq]at h;obtain⟨rfl|rfl,h⟩:=h<;>simp only[lo,ξ.lo,IL n l h,zY]
 | .sl _ _ _ _ _,h=>by simp[plain]at h
 | .agg l,h=>by simp only[plain]at h;simp only[lo,IL n l h]
 | .aU l,h=>by simp only[plain]at h;simp only[lo,IL n l h]
 | .fn (.func f) [] [],_=>rfl
 | .fn (.func f) (_::_) _,h=>by simp[plain]at h
 | .fn (.func f) [] (_::_),h=>by simp[plain]at h
 | .fn (.method _) _ _,h=>by simp[plain]at h
 | .fn (.methodOf _ _) _ _,h=>by simp[plain]at h
 | .fn (.via _ _ _ _) _ _,h=>by simp[plain]at h
 | .fn (.yield _) _ _,h=>by simp[plain]at h
 | .fV,_=>rfl
 | .iface t v,h=>by simp only[plain]at h;simp only[lo,Wf n v h]
 | .gx,_=>rfl
 | .map _,h=>by simp[plain]at h
 | .gY,_=>rfl
theorem IL(n:Nat):∀l:List AV,sd l=true->bo n l=true
 |[],_=>rfl
 |v::l,h=>by simp only[sd,dW]at h;simp only[bo,Wf n v h.1,IL n l h.2,zY]
end
section
variable{P:Program}{base:Nat}{LC:eX}{g:Gh}{lb:LB}{own:OW}{loc:Nat->Option (Nat×θ)}{mem:Mem}{w:World}{bf:Nat->Bool}{ax:cu}
variable{ev:bw->AV}{a:Act}{o:Oper}{ao:AO}{v:AV}{u:kG}{m':Mem}
theorem VR.plain{v:AV}{x:Value}(h:VR g lb v x)(hp:plain v=true):VR g bV v x:=by
 have h1:=VR.exp (lb':=bV) 0 true h;rw[CH 0 true v hp]at h1;have hs:(g.cut 0).sub g:=by
  refine⟨fun _ _ _ h=>h,fun id b hb=>?_,fun t n x hx=>?_⟩
  ·simp[Gh.cut]at hb
  ·simp[Gh.cut]at hx
 exact VR.sub hs h1
theorem ae6{kk:KK}{k:AV}{x:Value}(h:VR g lb k x)(hk:isKey kk k=true):VR g bV k x:=by refine h.plain ?_;cases kk<;>cases k<;>simp_all [isKey,Δ.plain]
theorem ajr{lb':LB}{k k':AV}{x x':Value}(h:VR g lb k x)(h':VR g lb' k' x')(he:jO k k'=some true):∀n,Instr.sameBits n x' x=true:=by
 intro n;cases k<;>cases k'<;>simp[jO]at he
 ·cases h;cases h';obtain⟨rfl,rfl⟩:=he;cases n<;>simp[Instr.sameBits]
 ·cases h;cases h';subst he;cases n<;>simp[Instr.sameBits]
 ·cases h;cases h';rename_i b1 h1 b2 h2;subst he;have:b2.data.toList=b1.data.toList:=Wr (h2.trans h1.symm);have hb:b2=b1:=by obtain⟨⟨l1⟩⟩:=b1;obtain⟨⟨l2⟩⟩:=b2;simp at this;subst this;rfl
  subst hb;have:(b2==b2)=true:=by rw[beq_toListBytes];simp
  cases n<;>simp[Instr.sameBits,this]
theorem VB{kk:KK}{k:AV}(hk:isKey kk k=true):plain k=true:=by unfold isKey at hk;split at hk<;>first|rfl|(cases hk;done)
theorem WE(ak:eS g lb ev a)(hm:a_ g own LC mem w)(hl:cx g lb own loc w)(ho:bT base own w){t:TypeId}{x y z:Operand}(Ξ:o.op= .mapUpdate t x y z)
  :gI P bf base LC g lb own loc mem w ax ev a o ao v u m':=fun hc hr=>by
 simp only[cQ,Ξ]at hc;split at hc
 ·rename_i kt et x' y' z' hu hx hy hz;simp only[bE]at hc;obtain⟨kk,fb,rfl⟩:=hc;simp only[aH]at hr;split at hr
  ·rename_i id e1;split at hr
   ·rename_i es he;split at hr
    ·rename_i je;simp only[dW]at je;obtain⟨m_,dQ⟩:=je;simp only[bE,az]at hr;obtain⟨e_,MP,rfl,rfl,rfl⟩:=hr;have k1:=ak _ _ hx;rw[e1]at k1;obtain⟨xv,bJ⟩:∃xv,a.eval x=xv:=⟨_,rfl⟩;rw[bJ]at k1;obtain⟨b,dn,clock,rfl,h2,h3,h4,h5,h6,h7,h8⟩:=IS hm k1 he;have hid:id<mem.ε.length:=hm.ju id b h2;obtain⟨dz,d,uw,lP⟩:=Im (P:=P) (w:=w) fb m_ (ak _ _ hy) false;have UE:=ae6 (ak _ _ hy) m_;have zi:=(ak _ _ hz).plain dQ;have mG:=Wq es e_ 0 MP;have nU:=FZ lP es dn.toList 0 (by simpa using h6.symm) (fun j h h'=>by have:=h7 j h (by simpa using h');simpa using this) (by rcases mG with⟨h,_⟩|⟨_,_,h,_⟩<;>rw[h]<;>simp);rcases mG with⟨f1,f2,rfl⟩|⟨j,v',f1,f2,f3,rfl⟩
     ·have g2:Instr.findNow d (a.eval y) dn.toList 0=some none:=by
       rcases nU with⟨_,g2,_⟩|⟨j,v',g1,_⟩
       ·exact g2
       ·rw[f1]at g1;cases g1
      have qv:(Instr.findKey kt (a.eval y) dn.toList).run P w= .ok none w:=zL uw g2;refine⟨undef,fJ w b (.map (dn.push {key:=a.eval y,val:=a.eval z,born:=clock}) (clock+1)),.inr ⟨?_,rfl⟩,ED hm hl ho h3 hid h4 ?_⟩
      ·simp only[execOp,Ξ,bJ,Instr.mapUpdate,Sem.run_bind,run_underlying hu,Result.andThen_ok,run_getObj_map h5,dz,qv,run_setObj_map h5];rfl
      ·refine⟨b,h2,h3,h4,_,_,BH h5 _,by simp[h6],fun i hi ab=>?_,fun p hp=>?_⟩;rcases cX i es.length with χ|du
       ·have eO:i<dn.size:=by omega
        simp only[xX χ,ali,eO,dite_true];exact h7 i χ eO
       ·have jg:i=es.length:=by simp at hi;omega
        subst jg;have:¬es.length<dn.size:=by omega
        simp only[xY (bA _),Nat.sub_self,lE,ali,this,dite_false];exact⟨UE,zi⟩
       ·rcases dE.1 hp with hp|hp
        ·exact h8 p hp
        ·obtain rfl:p=_:=by simpa using hp
         exact⟨VB m_,dQ⟩
     ·obtain⟨hj,vz⟩:=f3;obtain⟨dJ,qv⟩:∃dJ:j<dn.size,(Instr.findKey kt (a.eval y) dn.toList).run P w= .ok (some (j,dn[j].val)) w:=by
       rcases nU with⟨g1,_⟩|⟨j2,v2,g1,g2,g3,g4,g5,g6⟩
       ·rw[f1]at g1;cases g1
       ·rw[f2]at g2;simp only[bc,az,lj]at g2;obtain⟨rfl,-⟩:=g2;refine⟨by simpa using g4,?_⟩;have:=zL (P:=P) (w:=w) uw g6;simpa using this
      have H':=ajr (ak _ _ hy) (h7 j hj dJ).1 vz 10000;refine⟨undef,fJ w b (.map (dn.modify j fun e=> {e with key:=a.eval y,val:=a.eval z}) clock),.inr ⟨?_,rfl⟩,ED hm hl ho h3 hid h4 ?_⟩
      ·simp only[execOp,Ξ,bJ,Instr.mapUpdate,Sem.run_bind,run_underlying hu,Result.andThen_ok,run_getObj_map h5,dz,qv,wq dJ,qh,Option.getD_some,Instr.keyThatStays,H',if_true,Sem.run_pure,run_setObj_map h5]
      ·refine⟨b,h2,h3,h4,_,_,BH h5 _,by simp[h6],fun i hi ab=>?_,fun p hp=>?_⟩;have jg:i<es.length:=by simpa using hi
       have MZ:i<dn.size:=by omega
       simp only[List.getElem_set,Array.getElem_modify];by_cases oN:j=i
       ·subst oN;simp only[if_true];exact⟨UE,zi⟩
       ·simp only[oN,if_false];exact h7 i jg MZ
       ·rcases List.mem_or_eq_of_mem_set hp with hp|rfl
        ·exact h8 p hp
        ·exact⟨VB m_,dQ⟩
    ·cases hr
   ·cases hr
  ·cases hr
 ·cases hc
theorem WH(hm:a_ g own LC mem w)(hl:cx g lb own loc w)(ho:bT base own w){t:TypeId}(Ξ:o.op= .makeMap t none)
  :gI P bf base LC g lb own loc mem w ax ev a o ao v u m':=fun hc hr=>by
 simp only[cQ,Ξ]at hc;cases hc;simp only[aH,bc,az]at hr;obtain⟨rfl,rfl,rfl⟩:=hr;let g':Gh:= {g with mb:=fun id=>if id=mem.ε.length then some w.heap.size else g.mb id};have di:g.sub g':=⟨fun _ _ _ h=>h,fun id b hb=>by
  have:=hm.ju id b hb
  simp only[g'];rw[if_neg (by omega)];exact hb,fun _ _ _ h=>h⟩
 have Ω:=eu.alloc g own w (.map #[] 0) (some (.m mem.ε.length));refine⟨.map (some w.heap.size),w.alloc (.map #[] 0),.inl ?_,g',lb,_,⟨di,Ω.size,Ω.os,Ω.tape,Ω.output,Ω.bm,Ω.jH,Ω.im⟩,fun _ _ _ h=>h,.map _ _ _ (by simp[g']),?_,?_,ho.alloc _ _⟩
 ·simp only[execOp,Ξ,alf,Instr.makeMap,Sem.run_bind,run_newObj,Result.andThen_ok,Sem.run_pure];rfl
 ·refine hm.push (hm.alloc ho _ _) _ _ (fun id b hb=>?_) (fun id hid=>?_) ?_
  ·split at hb
   ·exact .inr (by assumption)
   ·exact .inl hb
  ·exact if_neg (by omega)
  ·exact⟨w.heap.size,by simp,by simp[gP],(show∀o,g.im w.heap.size o=none from xB hm),#[],0,qt w _,rfl,fun i h=>by simp at h,fun p hp=>by cases hp⟩
 ·exact(hl.alloc ho _ _).bm di fun _ _ _=>⟨rfl,rfl,fun _=>rfl⟩
theorem agy(ak:eS g lb ev a)(hm:a_ g own LC mem w)(hl:cx g lb own loc w)(ho:bT base own w){c:Call}(Ξ:o.op= .call c)(hb:c.callee= .builtin .delete)
  :gI P bf base LC g lb own loc mem w ax ev a o ao v u m':=fun hc hr=>by
 simp only[cQ,Ξ,hb]at hc;split at hc
 ·rename_i x y t ts iG s8;split at hc
  ·rename_i kt et x' y' hu hx hy;simp only[bE]at hc;obtain⟨kk,fb,rfl⟩:=hc;have nS:(c.args.map a.eval)= #[a.eval x,a.eval y]:=by
    have:(c.args.map a.eval).toList=[a.eval x,a.eval y]:=by simp[iG]
    rw[<-uW (xs:=c.args.map a.eval),this]
   have pV:c.argTypes[0]?=some t:=by rw[<-Array.getElem?_toList,s8];rfl
   simp only[aH]at hr;split at hr
   ·rename_i id e1;split at hr
    ·rename_i es he;split at hr
     ·rename_i m_;simp only[bE,az]at hr;obtain⟨e_,MP,rfl,rfl,rfl⟩:=hr;have k1:=ak _ _ hx;rw[e1]at k1;obtain⟨xv,bJ⟩:∃xv,a.eval x=xv:=⟨_,rfl⟩;rw[bJ]at k1;obtain⟨b,dn,clock,rfl,h2,h3,h4,h5,h6,h7,h8⟩:=IS hm k1 he;have hid:id<mem.ε.length:=hm.ju id b h2;obtain⟨dz,d,uw,lP⟩:=Im (P:=P) (w:=w) fb m_ (ak _ _ hy) dn.isEmpty;have mG:=Wk es e_ 0 MP;have nU:=FZ lP es dn.toList 0 (by simpa using h6.symm) (fun j h h'=>by have:=h7 j h (by simpa using h');simpa using this) (by rcases mG with⟨h,_⟩|⟨_,_,h,_⟩<;>rw[h]<;>simp);rcases mG with⟨f1,f2,rfl⟩|⟨j,v',f1,f2,hj,rfl⟩
      ·have g2:Instr.findNow d (a.eval y) dn.toList 0=some none:=by
        rcases nU with⟨_,g2,_⟩|⟨j,v',g1,_⟩
        ·exact g2
        ·rw[f1]at g1;cases g1
       have qv:(Instr.findKey kt (a.eval y) dn.toList).run P w= .ok none w:=zL uw g2;refine⟨undef,fJ w b (.map dn clock),.inl ?_,ED hm hl ho h3 hid h4 ⟨b,h2,h3,h4,_,_,BH h5 _,h6,h7,h8⟩⟩;simp only[execOp,Ξ,resolve,hb,nS,Sem.run_bind,Sem.run_pure,Result.andThen_ok,invoke,builtin,Builtin.delete_,pV,bJ];simp[run_underlying hu,run_getObj_map h5,dz,qv,run_setObj_map h5,undef]
      ·obtain⟨dJ,qv⟩:∃dJ:j<dn.size,(Instr.findKey kt (a.eval y) dn.toList).run P w= .ok (some (j,dn[j].val)) w:=by
        rcases nU with⟨g1,_⟩|⟨j2,v2,g1,g2,g3,g4,g5,g6⟩
        ·rw[f1]at g1;cases g1
        ·rw[f2]at g2;simp only[bc,az,lj]at g2;obtain⟨rfl,-⟩:=g2;refine⟨by simpa using g4,?_⟩;have:=zL (P:=P) (w:=w) uw g6;simpa using this
       refine⟨undef,fJ w b (.map (dn.eraseIdxIfInBounds j) clock),.inl ?_,ED hm hl ho h3 hid h4 ⟨b,h2,h3,h4,_,_,BH h5 _,?_,fun i hi ab=>?_,fun p hp=>h8 p (List.mem_of_mem_eraseIdx hp)⟩⟩
       ·simp only[execOp,Ξ,resolve,hb,nS,Sem.run_bind,Sem.run_pure,Result.andThen_ok,invoke,builtin,Builtin.delete_,pV,bJ];simp[run_underlying hu,run_getObj_map h5,dz,qv,run_setObj_map h5,undef]
       ·have e1:(dn.eraseIdxIfInBounds j).size=dn.size-1:=by simp[alj,dJ]
        rw[e1,alk hj,h6]
       ·have e1:(dn.eraseIdxIfInBounds j)=dn.eraseIdx j dJ:=by simp[alj,dJ]
        have jg:i<es.length-1:=by rw[alk hj]at hi;exact hi
        simp only[e1,List.getElem_eraseIdx,Array.getElem_eraseIdx];by_cases oN:i<j
        ·simp only[oN,dite_true];exact h7 i (by omega) (by omega)
        ·simp only[oN,dite_false];exact h7 (i+1) (by omega) (by omega)
     ·cases hr
    ·cases hr
   ·cases hr
  ·cases hc
 ·cases hc
theorem agQ(ak:eS g lb ev a)(hm:a_ g own LC mem w)(hl:cx g lb own loc w)(ho:bT base own w){t:TypeId}{x:Operand}(Ξ:o.op= .range t x)
  :gI P bf base LC g lb own loc mem w ax ev a o ao v u m':=fun hc hr=>by
 simp only[cQ,Ξ]at hc;split at hc
 ·rename_i x' hu hx;cases hc;simp only[aH]at hr;split at hr
  ·rename_i s d e1 e2;simp only[bc,az]at hr;obtain⟨rfl,rfl,rfl⟩:=hr;have k1:=ak _ _ hx;rw[e1]at k1;obtain⟨xv,bJ⟩:∃xv,a.eval x=xv:=⟨_,rfl⟩;rw[bJ]at k1;cases k1 with
   |str _ bs _ fG=>
    refine⟨.pointer (some ⟨w.heap.size,0,none⟩),w.alloc (.stringIter bs 0),.inl ?_,g,tf lb d (bL loc d) w.heap.size,_,.alloc g own w _ (some (.l d)),IF hl d _,.aj _ _ _ _ _ (by simp[tf]),hm.alloc ho _ _,?_,ho.alloc _ _⟩
    ·simp only[execOp,Ξ,bJ,Instr.range,Sem.run_bind,run_underlying hu,Result.andThen_ok,Sem.run_pure,run_newObj];rfl
    ·refine hl.new ho d _ _ (fun l' sS=>by cases sS) (fun s' pos h=>?_);cases h;exact⟨xB hm,bs,rfl,fG⟩
  ·cases hr
 ·cases hc
theorem Xz{b:Nat}{bs:ByteArray}{pos:Nat}(h:w.heap[b]?=some (.stringIter bs pos)):(getObj b).run P w= .ok (.stringIter bs pos) w:=by simp only[getObj,Sem.run,h]
theorem ai0{b:Nat}{bs:ByteArray}{pos:Nat}(h:w.heap[b]?=some (.stringIter bs pos))(x:Obj):(setObj b x).run P w= .ok () (fJ w b x):=by simp only[setObj,Sem.run,h];rfl
theorem ZB{bs:ByteArray}{s:List Nat}(h:bs.data.toList.map UInt8.toNat=s):(⟨(s.map UInt8.ofNat).toArray⟩:ByteArray)=bs:=by subst h;obtain⟨⟨l⟩⟩:=bs;simp[dc,Function.comp_def]
theorem agO(ak:eS g lb ev a)(hm:a_ g own LC mem w)(hl:cx g lb own loc w)(ho:bT base own w){x:Operand}(Ξ:o.op= .next x true)
  :gI P bf base LC g lb own loc mem w ax ev a o ao v u m':=fun hc hr=>by
 simp only[cQ,Ξ,bE]at hc;obtain⟨x',hx,rfl⟩:=hc;simp only[aH]at hr;split at hr
 ·rename_i d wm e1;split at hr
  ·rename_i v' s pos hd;split at hr
   ·rename_i hv;subst hv;have k1:=ak _ _ hx;rw[e1]at k1;obtain⟨xv,bJ⟩:∃xv,a.eval x=xv:=⟨_,rfl⟩;rw[bJ]at k1;cases k1 with
    |aj _ _ _ _ b hb=>
     obtain⟨b',aT,dq,cC,bs,fG,hs⟩:=hl.iter d _ s pos hd
     rw[hb]at aT;cases aT;have hlen:=EJ hs;split at hr
     ·rename_i jN;simp only[bc,az,ZB hs]at hr;obtain⟨rfl,rfl,rfl⟩:=hr;have jy:∀b',b'≠b->(fJ w b (.stringIter bs (pos+(Utf8.decode bs pos).2))).heap[b']?=w.heap[b']?:=fun b' τ=>by simp only[fJ];rw[JP (Ne.symm τ)]
      refine⟨.tuple #[.bool true,.int .i64 pos,.int .i32 (Utf8.decode bs pos).1],fJ w b (.stringIter bs (pos+(Utf8.decode bs pos).2)),.inl ?_,g,lb,own,
       ⟨g.eP,by simp[fJ],rfl,rfl,rfl,fun b' _ ho=>jy b' (by rintro rfl;rw[dq]at ho;cases ho),fun _ _ h=>h,fun _ _ _ _=>rfl⟩,fun _ _ _ h=>h,?_,?_,?_,?_⟩
      ·simp only[execOp,Ξ,bJ,Instr.next,Sem.run_bind,Xz fG,Result.andThen_ok];rw[if_pos (by rw[hlen];exact jN)];simp only[Sem.run_bind,ai0 fG,Result.andThen_ok,Sem.run_pure];rfl
      ·refine .aU _ _ _ rfl fun i hi ab=>?_
       match i,hi with
       |0,_=>exact .bool _ _
       |1,_=>exact .int _ _ _
       |2,_=>exact .int _ _ _
      ·refine hm.bm g.eP (fun _ h=>h) (fun _ _ h=>h) (fun id b' aT=>⟨rfl,jy b' ?_,fun _=>rfl⟩) (fun b' o y hy=>?_)
       ·rintro rfl;rw[dq]at aT;cases aT
       ·have τ:b'≠b:=by rintro rfl;rw[cC]at hy;cases hy
        rw[qj (jy b' τ)];exact hm.im _ _ _ hy
      ·have ij:(fJ w b (.stringIter bs (pos+(Utf8.decode bs pos).2))).heap[b]?=some (.stringIter bs (pos+(Utf8.decode bs pos).2)):=BH fG _;refine⟨fun d' i l' kx=>?_,fun d' i s' pos' kx=>?_,fun d' i b' aT=>?_⟩
       ·simp only[ny]at kx;split at kx
        ·cases kx
        ·rename_i iq;obtain⟨b2,q1,q2⟩:=hl.cells d' i l' kx;have τ:b2≠b:=by rintro rfl;have:=q2.1;rw[dq]at this;cases this;exact iq rfl
         exact⟨b2,q1,q2.bm g.eP (fun _ _ _ h=>h) rfl (jy b2 τ) fun _=>rfl⟩
       ·simp only[ny]at kx;split at kx
        ·rename_i iq;subst iq;cases kx;exact⟨b,hb,dq,cC,bs,ij,hs⟩
        ·rename_i iq;obtain⟨b2,q1,q2,q3,pB,q4,q5⟩:=hl.iter d' i s' pos' kx;have τ:b2≠b:=by rintro rfl;rw[dq]at q2;cases q2;exact iq rfl
         exact⟨b2,q1,q2,q3,pB,(jy b2 τ).trans q4,q5⟩
       ·obtain⟨v2,Ko,q1,q2⟩:=hl.wm d' i b' aT;by_cases iq:d=d'
        ·subst iq;rw[hd]at q1;cases q1;exact⟨_,.iter s (pos+(Utf8.decode bs pos).2),by simp[ny],q2⟩
        ·exact⟨v2,Ko,by simp[ny,iq,q1],q2⟩
      ·exact⟨fun b' o aT=>by simpa[fJ]using ho.ge b' o aT,by simpa[fJ]using ho.base⟩
     ·rename_i jN;simp only[bc,az]at hr;obtain⟨rfl,rfl,rfl⟩:=hr;refine .pure hm hl ho (x:= .tuple #[.bool false]) ?_ (.aU _ _ _ rfl fun i hi ab=>by
       match i,hi with
       |0,_=>exact .bool _ _)
      simp only[execOp,Ξ,bJ,Instr.next,Sem.run_bind,Xz fG,Result.andThen_ok];rw[if_neg (by rw[hlen];exact jN)];rfl
   ·cases hr
  ·cases hr
 ·cases hr
end
end Go.Δ
