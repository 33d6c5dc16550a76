import Derived.OrdersIn
import Derived.LoopNIn
import Derived.Deep.MidRow
import Derived.Below
import Derived.Laws.StructEq
import Derived.Laws.Build
set_option linter.all false
set_option maxRecDepth 100000
set_option maxHeartbeats 8000000
open Nat renaming min->akh,le_refl->b_,lt_of_lt_of_le->kg,lt_or_ge->di,lt_irrefl->akk,le_of_lt->zV,mul_le_mul_right->nu,add_mul->kA,mul_comm->akl,zero_add->lN,zero_le->vY,zero_mul->akn,add_assoc->uN,add_zero->qX
open Option renaming map_eq_some_iff->bA,map_some->p8,isSome_none->akm,map_none->akr
open List renaming map_cons->ax,map_nil->aI,getElem_map->iQ,mem_map->fb,length_map->cz,getElem_cons_zero->kz,getElem?_take->BX,getElem?_drop->aki,getElem_take->BY,getElem_drop->xF,mem_of_mem_drop->tE,mem_of_mem_take->qV,mem_iff_getElem->o_,range->qW,getElem?_map->od,getElem?_eq_none->gW,getElem?_range->akj,getElem_range->Jx,mem_range->zT,length_append->cX,length_cons->cN,length_nil->eT,getElem?_append_left->d_,getElem?_append_right->uM,getElem_append_left->xD,getElem_append_right->xE,drop_take->BU,take_of_length_le->fe,mem_append->dQ,length_set->mN,getElem_mem->db,getElem?_eq_some_iff->fI,getD_eq_getElem?_getD->nr,getElem?_eq_getElem->dp,getElem?_toArray->Jw,append_assoc->bQ,all_eq_true->dL,nil_append->bB,extract_eq_take_drop->Pn,drop_of_length_le->aks,map_map->cT,length_eraseIdx_of_lt->akw
open Bool renaming and_eq_true->dy,false_eq_true->jO,or_eq_true->BQ,and_self->vT
open Go.World renaming cell?->sq
open Array renaming getElem_toList->ma,getElem?_eq_some_iff->zO,toList_extract->ako,length_toList->vS,foldl_toList->akp,toList_zipIdx->akq,getElem?_eq_getElem->vR,range->akt,toArray_toList->uL,getElem?_setIfInBounds_ne->Jm,getElem_push->aku,eraseIdxIfInBounds->akv
open Option.some renaming injEq->a_
open Prod.mk renaming injEq->az
namespace Go.Δ
inductive τ
 |nil
 |any
 |full
 |own (t:Nat)
 deriving DecidableEq
inductive AV
 |undef
 |cR
 |int (k:IntKind) (n:Int)
 |bool (b:Bool)
 |str (s:List Nat)
 |ig
 |ak (d v off:Nat)
 |κ (id off:Nat)
 |ref (l:List AV)
 |list (c:τ) (l:List AV)
 |sl (kd id off n cap:Nat)
 |agg (l:List AV)
 |aU (l:List AV)
 |fn (f:Fn) (first cap:List AV)
 |eQ
 |iface (t:TypeId) (v:AV)
 |gq
 |map (id:Nat)
 |fQ
 deriving Inhabited
def AV.cells:AV->List AV
 | .agg l=>l
 | .aU _=>[]
 | .undef=>[]
 |v=>[v]
def AV.one:AV->Bool
 | .agg _=>false
 | .aU _=>false
 | .undef=>false
 |_=>true
mutual
def AV.beq:AV->AV->Bool
 | .undef,.undef=>true
 | .cR,.cR=>true
 | .int k n,.int k' n'=>decide (k=k')&&decide (n=n')
 | .bool b,.bool b'=>b==b'
 | .str s,.str s'=>decide (s=s')
 | .ig,.ig=>true
 | .ak d v o,.ak d' v' o'=>decide (d=d')&&decide (v=v')&&decide (o=o')
 | .κ d o,.κ d' o'=>decide (d=d')&&decide (o=o')
 | .ref l,.ref l'=>AV.gO l l'
 | .list c l,.list c' l'=>decide (c=c')&&AV.gO l l'
 | .sl kd i o n c,.sl kd' i' o' n' c'=>decide (kd=kd')&&decide (i=i')&&decide (o=o')&&decide (n=n')&&decide (c=c')
 | .agg l,.agg l'=>AV.gO l l'
 | .aU l,.aU l'=>AV.gO l l'
 | .fn f a b,.fn f' a' b'=>decide (f=f')&&AV.gO a a'&&AV.gO b b'
 | .eQ,.eQ=>true
 | .iface t v,.iface t' v'=>decide (t=t')&&AV.beq v v'
 | .gq,.gq=>true
 | .map i,.map i'=>decide (i=i')
 | .fQ,.fQ=>true
 |_,_=>false
def AV.gO:List AV->List AV->Bool
 |[],[]=>true
 |a::l,b::l'=>AV.beq a b&&AV.gO l l'
 |_,_=>false
end
def τ.exp(n:Nat)(k:Bool):τ->τ
 | .own t=>if k&&decide (t<n)then .own t else .any
 | .full=>if k then .full else .any
 | .any=> .any
 | .nil=> .nil
def Fn.below(n:Nat):Fn->Bool
 | .func _=>true
 | .methodOf _ _=>true
 | .yield l=>decide (l<n)
 |_=>false
mutual
def exp(n:Nat)(k:Bool):AV->AV
 | .ak _ _ _=> .cR
 | .κ id off=>if id<n then .κ id off else .cR
 | .ref l=> .ref (aX n k l)
 | .list c l=> .list (c.exp n k) (aX n k l)
 | .sl kd id off m cap=>if id<n then .sl kd id off m cap else .cR
 | .agg l=> .agg (aX n k l)
 | .aU l=> .aU (aX n k l)
 | .fn f a b=>if Fn.below n f then .fn f (aX n k a) (aX n k b)else .cR
 | .iface t v=> .iface t (exp n k v)
 | .map id=>if id<n then .map id else .cR
 |v=>v
def aX(n:Nat)(k:Bool):List AV->List AV
 |[]=>[]
 |v::l=>exp n k v::aX n k l
end
mutual
def ν:AV->AV
 | .ak _ _ _=> .cR
 | .ref l=> .ref (cG l)
 | .list c l=> .list c (cG l)
 | .agg l=> .agg (cG l)
 | .aU l=> .aU (cG l)
 | .fn f a b=> .fn f (cG a) (cG b)
 | .iface t v=> .iface t (ν v)
 |v=>v
def cG:List AV->List AV
 |[]=>[]
 |v::l=>ν v::cG l
end
mutual
def fC(n:Nat)(hp:Nat->Nat->AV)(hs:Nat->Nat->Nat->Nat->AV):AV->AV
 | .ak _ _ _=> .cR
 | .κ id off=>if id<n then .κ id off else hp id off
 | .ref l=> .ref (oC n hp hs l)
 | .list c l=> .list (c.exp n false) (oC n hp hs l)
 | .sl kd id off m cap=>if id<n then .sl kd id off m cap else hs kd id off m
 | .agg l=> .agg (oC n hp hs l)
 | .aU l=> .aU (oC n hp hs l)
 | .fn f a b=>if Fn.below n f then .fn f (oC n hp hs a) (oC n hp hs b)else .cR
 | .iface t v=> .iface t (fC n hp hs v)
 | .map id=>if id<n then .map id else .cR
 |v=>v
def oC(n:Nat)(hp:Nat->Nat->AV)(hs:Nat->Nat->Nat->Nat->AV):List AV->List AV
 |[]=>[]
 |v::l=>fC n hp hs v::oC n hp hs l
end
def chunk(s:Nat):Nat->List AV->List AV
 |0,_=>[]
 |m+1,l=> .agg (l.take s)::chunk s m (l.drop s)
theorem qc(n:Nat)(hp:Nat->Nat->AV)(hs:Nat->Nat->Nat->Nat->AV)(l:List AV):oC n hp hs l=l.map (fC n hp hs):=by
 induction l with
 |nil=>rfl
 |cons a l ih=>simp[oC,ih]
def τ.lo(n:Nat):τ->Bool
 | .own t=>decide (t<=n)
 |_=>true
mutual
def lo(n:Nat):AV->Bool
 | .κ id _=>decide (id<=n)
 | .ref l=>bn n l
 | .list c l=>c.lo n&&bn n l
 | .sl _ id _ _ _=>decide (id<=n)
 | .agg l=>bn n l
 | .aU l=>bn n l
 | .fn f a b=>Fn.below (n+1) f&&bn n a&&bn n b
 | .iface _ v=>lo n v
 | .map id=>decide (id<=n)
 |_=>true
def bn(n:Nat):List AV->Bool
 |[]=>true
 |v::l=>lo n v&&bn n l
end
mutual
def plain:AV->Bool
 | .undef| .cR| .int _ _| .bool _| .str _| .ig| .eQ| .gq| .fQ=>true
 | .ak _ _ _=>false
 | .κ _ _=>false
 | .ref _=>false
 | .list c l=>(decide (c= .any)||decide (c= .nil))&&rY l
 | .sl _ _ _ _ _=>false
 | .agg l=>rY l
 | .aU l=>rY l
 | .fn (.func _) [] []=>true
 | .fn _ _ _=>false
 | .iface _ v=>plain v
 | .map _=>false
def rY:List AV->Bool
 |[]=>true
 |v::l=>plain v&&rY l
end
theorem ft(n:Nat)(k:Bool)(l:List AV):aX n k l=l.map (exp n k):=by
 induction l with
 |nil=>rfl
 |cons a l ih=>simp[aX,ih]
theorem fH(l:List AV):cG l=l.map ν:=by
 induction l with
 |nil=>rfl
 |cons a l ih=>simp[cG,ih]
theorem m_(n:Nat)(l:List AV):bn n l=l.all (lo n):=by
 induction l with
 |nil=>rfl
 |cons a l ih=>simp[bn,ih]
def br:List AV->Nat->AV
 |[],_=> .undef
 |v::_,0=>v
 |_::l,n+1=>br l n
def mL:List AV->Nat->AV->List AV
 |[],0,v=>[v]
 |[],n+1,v=> .undef::mL [] n v
 |_::l,0,v=>v::l
 |a::l,n+1,v=>a::mL l n v
theorem fM(l:List AV)(i:Nat)(v:AV)(j:Nat):br (mL l i v) j=if i=j then v else br l j:=by
 induction i generalizing l j with
 |zero=>cases l<;>cases j<;>simp[mL,br]
 |succ i ih=>
  cases l with
  |nil=>cases j with
   |zero=>simp[mL,br]
   |succ j=>simp[mL,br,ih]
  |cons a l=>cases j with
   |zero=>simp[mL,br]
   |succ j=>simp[mL,br,ih]
inductive bh
 |t (n:Nat)
 |c (v:AV)
 |g (n:Nat)
 deriving Inhabited
inductive KK
 |int
 |str
 |bool
 deriving DecidableEq,Inhabited
inductive NK
 |ptr
 |slice
 |fn
 |iface
 |map
 deriving DecidableEq,Inhabited
inductive CK
 |int (k:IntKind)
 |same
 |char
 deriving Inhabited
inductive AO
 |bad
 |mv (x:bh)
 |pick (c a b:bh)
 |alloc (oD:Bool) (zero:List AV)
 |box (oD:Bool) (n:Nat) (x:bh)
 |build (zero:List AV) (parts:List (Nat×Nat×bh))
 |ca (ag:Bool) (sz:Nat) (xs:List bh)
 |ld (ag:Bool) (n:Nat) (a:bh)
 |st (n:Nat) (a x:bh)
 |vC (x:bh)
 |bin (op:BinOp) (x y:bh)
 |eqs (neg:Bool) (ks:List KK) (x y:bh)
 |x7 (neg:Bool) (x y:bh)
 |y_ (neg:Bool) (k:NK) (x:bh)
 |un (op:UnOp) (x:bh)
 |conv (k:CK) (x:bh)
 |NY (t:TypeId) (x:bh)
 |jf (f:Fn) (first cap:List bh)
 |fa (off:Nat) (x:bh)
 |oz (ag:Bool) (off n:Nat) (x:bh)
 |ia (sz:Nat) (x i:bh)
 |rP (len sz:Nat) (x i:bh)
 |Bf (ag:Bool) (len sz:Nat) (x i:bh)
 |lW (x i:bh)
 |lookup (kk:KK) (zero:AV) (ok:Bool) (m k:bh)
 |mapup (kk:KK) (m k v:bh)
 |mkmap
 |vK (sz:Nat) (x:bh) (lo hi mx:Option bh)
 |zG (x:bh) (lo hi:Option bh)
 |ext (x:bh) (k:Nat)
 |callz (f:bh) (args:List bh)
 |appm (ag:Bool) (sz bytes:Nat) (e:TypeId) (x y:bh)
 |call (f:bh) (args:List bh)
 |app (ag:Bool) (sz bytes:Nat) (e:TypeId) (x y:bh)
 |len (x:bh)
 |lens (x:bh)
 |D1 (x:bh)
 |NM (n:Nat)
 |mkslc (kd:Nat) (zero:List AV) (bytes:Nat) (n c:bh)
 |cpy (sz:Nat) (x y:bh)
 |clr (zero:List AV) (x:bh)
 |del (kk:KK) (m k:bh)
 |max (x y:bh)
 |min (x y:bh)
 |abld (T e:TypeId)
 |qQ (x:bh)
 |zl (x:bh)
 deriving Inhabited
structure aN where
 dst:Option Nat
 op:AO
 guard:Option (Nat×Bool)
 deriving Inhabited
inductive AC
 |skip
 |ops (l:List aN)
 |draw (l:List aN) (cf af:List (Nat×Nat))
 |seq (a b:AC)
 |cond (x:bh) (a b:AC)
 |block (id:Nat) (a:AC)
 |loop (a:AC)
 |exit (id:Nat)
 |ret
 |xy (f:bh) (ps:List Nat) (fK body:AC)
 |Ef (ds:List Nat)
 |bad
 deriving Inhabited
inductive LS
 |ready
 |busy
 |done (j:Option Nat)
 deriving DecidableEq,Inhabited
inductive θ
 |cells (l:List AV)
 |iter (s:List Nat) (pos:Nat)
 |dead
 |ny (T e:TypeId) (s:List Nat)
 |map (es:List (AV×AV))
 |front (n sz:Nat) (e:TypeId)
 |loop (env:List AV) (ps:List Nat) (fK body:AC) (st:LS)
 deriving Inhabited
abbrev Loc:=List (Nat×Nat×θ)
def bR:Loc->Nat->Option (Nat×θ)
 |[],_=>none
 |(d,x)::l,d'=>if d=d' then some x else bR l d'
def xd:Loc->Nat->(Nat×θ)->Loc
 |[],d,x=>[(d,x)]
 |(d,x)::l,d',x'=>if d=d' then(d',x')::l else(d,x)::xd l d' x'
theorem iL(l:Loc)(d:Nat)(x:Nat×θ)(d':Nat):bR (xd l d x) d'=if d=d' then some x else bR l d':=by
 induction l with
 |nil=>simp[xd,bR]
 |cons a l ih=>
  obtain⟨e,y⟩:=a
  by_cases h:e=d
  ·subst h;by_cases h':e=d'<;>simp[xd,bR,h']
  ·by_cases h':e=d'
   ·subst h';simp[xd,bR,h,Ne.symm h]
   ·simp[xd,bR,h,h',ih]
structure Mem where
 ε:List θ
 η:List Nat
 deriving Inhabited
def dk(l:List AV)(off:Nat)(vs:List AV):List AV:=l.take off++vs++l.drop (off+vs.length)
def rd(lk:Nat->Option (Nat×θ))(mem:Mem)(p:AV)(n:Nat):Option (List AV):=
 match p with
 | .ak d v off=>
  match lk d with
  |some (v',.cells l)=>if v'=v/\off+n<=l.length then some ((l.drop off).take n)else none
  |_=>none
 | .κ id off=>
  match mem.ε[id]? with
  |some (.cells l)=>if off+n<=l.length then some ((l.drop off).take n)else none
  |_=>none
 | .ref l=>if n<=l.length then some (l.take n)else none
 |_=>none
abbrev kB:=Option (Nat×Nat×θ)
def Mem.put(m:Mem)(id:Nat)(b:θ)(ok:Bool):Mem:= {ε:=m.ε.set id b,η:=if ok then m.η else id::m.η}
def Mem.push(m:Mem)(b:θ):Mem:= {m with ε:=m.ε++[b]}
def Mem.ν(_:Mem)(v:AV):AV:=Δ.ν v
def wr(lk:Nat->Option (Nat×θ))(mem:Mem)(p:AV)(vs:List AV):Option (kB×Mem):=
 match p with
 | .ak d v off=>
  match lk d with
  |some (v',.cells l)=>if v'=v/\off+vs.length<=l.length then some (some (d,v,.cells (dk l off vs)),mem)else none
  |_=>none
 | .κ id off=>
  match mem.ε[id]? with
  |some (.cells l)=>if off+vs.length<=l.length then some (none,mem.put id (.cells (dk l off (vs.map mem.ν))) (bn id (vs.map mem.ν)))else none
  |_=>none
 |_=>none
def jm(op:BinOp)(k:IntKind)(a b:Int):Option AV:=
 match op with
 | .add=>some (.int k (k.wrap (a+b)))
 | .sub=>some (.int k (k.wrap (a-b)))
 | .mul=>some (.int k (k.wrap (a*b)))
 | .quo=>if b=0 then none else some (.int k (k.wrap (a.tdiv b)))
 | .rem=>if b=0 then none else some (.int k (a.tmod b))
 | .and=>some (.int k (k.wrap (BitVec.ofInt k.bits a&&&BitVec.ofInt k.bits b).toNat))
 | .or=>some (.int k (k.wrap (BitVec.ofInt k.bits a|||BitVec.ofInt k.bits b).toNat))
 | .xor=>some (.int k (k.wrap (BitVec.ofInt k.bits a^^^BitVec.ofInt k.bits b).toNat))
 | .andNot=>some (.int k (k.wrap (BitVec.ofInt k.bits a&&& ~~~BitVec.ofInt k.bits b).toNat))
 | .eql=>some (.bool (a==b))
 | .neq=>some (.bool (a !=b))
 | .lss=>some (.bool (decide (a<b)))
 | .leq=>some (.bool (decide (a<=b)))
 | .gtr=>some (.bool (decide (a>b)))
 | .geq=>some (.bool (decide (a≥b)))
 |_=>none
def xk:List Nat->List Nat->Bool
 |_,[]=>false
 |[],_::_=>true
 |a::x,b::y=>decide (a<b)||(decide (a=b)&&xk x y)
def cD(op:BinOp)(a b:List Nat):Option AV:=
 match op with
 | .add=>if((a.length+b.length:Nat):Int)>IntKind.i64.max then none else some (.str (a++b))
 | .eql=>some (.bool (decide (a=b)))
 | .neq=>some (.bool (!decide (a=b)))
 | .lss=>some (.bool (xk a b))
 | .leq=>some (.bool (xk a b||decide (a=b)))
 | .gtr=>some (.bool (!(xk a b||decide (a=b))))
 | .geq=>some (.bool (!xk a b))
 |_=>none
def iS(op:BinOp)(x y:AV):Option AV:=
 match x,y with
 | .int k a,.int k' b=>
  match op with
  | .shl=>if b<0 then none else some (.int k (k.wrap (a*2^akh b.toNat k.bits)))
  | .shr=>if b<0 then none else some (.int k (a.fdiv (2^akh b.toNat k.bits)))
  |_=>if k=k' then jm op k a b else none
 | .str a,.str b=>cD op a b
 |_,_=>none
def jH:List KK->List AV->List AV->Option Bool
 |[],[],[]=>some true
 | .int::ks,.int k a::l,.int k' b::l'=>if k=k' then(jH ks l l').map (decide (a=b)&&·)else none
 | .str::ks,.str a::l,.str b::l'=>(jH ks l l').map (decide (a=b)&&·)
 | .bool::ks,.bool a::l,.bool b::l'=>(jH ks l l').map ((a==b)&&·)
 |_,_,_=>none
def isNil:NK->AV->Option Bool
 | .ptr,.ig=>some true
 | .ptr,.ak _ _ _=>some false
 | .ptr,.κ _ _=>some false
 | .ptr,.ref _=>some false
 | .slice,.list .nil _=>some true
 | .slice,.list _ _=>some false
 | .slice,.sl _ _ _ _ _=>some false
 | .fn,.eQ=>some true
 | .fn,.fn _ _ _=>some false
 | .iface,.gq=>some true
 | .iface,.iface _ _=>some false
 | .map,.fQ=>some true
 | .map,.map _=>some false
 |_,_=>none
def jE(op:UnOp)(x:AV):Option AV:=
 match op,x with
 | .neg,.int k n=>some (.int k (k.wrap (0-n)))
 | .not,.bool b=>some (.bool !b)
 |_,_=>none
def mo(k:CK)(x:AV):Option AV:=
 match k,x with
 | .int k,.int _ n=>some (.int k (k.wrap n))
 | .same,.str s=>some (.str s)
 | .char,.int _ n=>some (.str ((Utf8.encode n).data.toList.map UInt8.toNat))
 |_,_=>none
def shaped(ag:Bool)(sz:Nat):AV->Bool
 | .agg l=>ag&&decide (l.length=sz)
 |v=>!ag&&v.one&&decide (sz=1)
def single:List AV->Option AV
 |[v]=>some v
 |_=>none
def iu(ag:Bool)(l:List AV):Option AV:=if ag then some (.agg l)else single l
def jM:AV->AV->Option Bool
 | .str a,.str b=>some (decide (a=b))
 | .int k a,.int k' b=>if k=k' then some (decide (a=b))else none
 | .bool a,.bool b=>some (a==b)
 |_,_=>none
def jz(k:AV):List (AV×AV)->Option (Option AV)
 |[]=>some none
 |(k',v)::l=>match jM k k' with
  |some true=>some (some v)
  |some false=>jz k l
  |none=>none
def uj(k v:AV):List (AV×AV)->Option (List (AV×AV))
 |[]=>some [(k,v)]
 |(k',v')::l=>match jM k k' with
  |some true=>some ((k,v)::l)
  |some false=>(uj k v l).map ((k',v')::·)
  |none=>none
def xf(k:AV):List (AV×AV)->Option (List (AV×AV))
 |[]=>some []
 |(k',v')::l=>match jM k k' with
  |some true=>some l
  |some false=>(xf k l).map ((k',v')::·)
  |none=>none
def isKey:KK->AV->Bool
 | .str,.str _=>true
 | .int,.int _ _=>true
 | .bool,.bool _=>true
 |_,_=>false
def bound(ev:bh->AV)(top:Nat):Option bh->Nat->Option Nat
 |none,Fv=>some Fv
 |some x,_=>match ev x with
  | .int _ n=>if 0<=n/\n<=top then some n.toNat else none
  |_=>none
def jA(p:AV)(off:Nat):Option AV:=
 match p with
 | .ak d v o=>some (.ak d v (o+off))
 | .κ id o=>some (.κ id (o+off))
 | .ref l=>if off<=l.length then some (.ref (l.drop off))else none
 |_=>none
def dG(ev:bh->AV):List (Nat×Nat×bh)->List AV->Option (List AV)
 |[],cs=>some cs
 |(off,size,x)::rest,cs=>if(ev x).cells.length=size/\off+size<=cs.length then dG ev rest (dk cs off (ev x).cells)else none
def bJ(lk:Nat->Option (Nat×θ))(d:Nat):Nat:=
 match lk d with
 |none=>0
 |some (v,_)=>v+1
def newVar(lk:Nat->Option (Nat×θ))(mem:Mem)(oD:Bool)(dst:Option Nat)(b:List AV):Option (AV×kB×Mem):=
 if oD then some (.κ mem.ε.length 0,none,mem.push (.cells (b.map mem.ν)))
 else match dst with
  |some d=>some (.ak d (bJ lk d) 0,some (d,bJ lk d,.cells b),mem)
  |none=>none
def aQ(bs:List θ)(n:Nat):Nat->AV->AV
 |0=>exp n false
 |k+1=>fC n
   (fun id off=>match bs[id]? with
    |some (.cells l)=> .ref ((l.drop off).map (aQ bs n k))
    |_=> .cR)
   (fun kd id off m=>match bs[id]? with
    |some (.cells l)=>if off+m*Nat.max kd 1<=l.length then
      (if kd=0 then(if((l.drop off).take m).all AV.one then .list .any (((l.drop off).take m).map (aQ bs n k))else .cR)
      else .list .any (chunk kd m ((l.drop off).map (aQ bs n k))))
     else .cR
    |_=> .cR)
def rep:Nat->List AV->List AV
 |0,_=>[]
 |n+1,z=>z++rep n z
def cellsOf(mem:Mem)(sz:Nat):AV->Option (Nat×List AV)
 | .list _ l=>if l.all (fun e=>decide (e.cells.length=sz))then some (l.length,l.flatMap AV.cells)else none
 | .sl _ id off n _=>match mem.ε[id]? with
  |some (.cells l)=>if off+n*sz<=l.length then some (n,(l.drop off).take (n*sz))else none
  |_=>none
 |_=>none
abbrev cg:=AV->List AV->Mem->Option (AV×Mem)
def iq(mem:Mem)(ag:Bool)(sz bytes:Nat)(e:TypeId)(x y:AV):Option (AV×Mem):=
 match x,y with
 | .list c l,.list _ m=>
  if m.all (shaped ag sz)&&l.all (shaped ag sz)&&decide (0<sz)&&decide ((l.length+m.length)*bytes<=140737488355328)&&decide (l.length+m.length<=140737488355328)then
   match c,m with
   |c,[]=>some (.list c l,mem)
   | .full,m=>some (.list (.own mem.ε.length) (l++m.map mem.ν),mem.push (.front (l.length+m.length) sz e))
   | .nil,m=>some (.list (.own mem.ε.length) (l++m.map mem.ν),mem.push (.front (l.length+m.length) sz e))
   | .own t,m=>match mem.ε[t]? with
    |some (.front n eN e')=>if n=l.length/\eN=sz/\e'=e then some (.list (.own t) (l++m.map mem.ν),mem.put t (.front (l.length+m.length) sz e) true)else none
    |_=>none
   | .any,_=>none
  else none
 |_,_=>none
def vZ(mem:Mem)(ag:Bool)(sz bytes:Nat)(x y:AV):Option (AV×Mem):=
 match x,y with
 | .list c [],.list _ m=>
  if m.all (shaped ag sz)&&decide (0<sz)&&decide (m.length*bytes<=140737488355328)&&decide (m.length<=140737488355328)&&decide (c= .full\/c= .nil)then
   match m with
   |[]=>some (.list c [],mem)
   |m=>some (.sl (if ag then sz else 0) mem.ε.length 0 m.length m.length,mem.push (.cells ((m.flatMap AV.cells).map mem.ν)))
  else none
 |_,_=>none
def fz(mem:Mem):AV->Option (AV×Mem)
 | .list c l=>some (.list c l,mem)
 | .sl kd id off n _=>match mem.ε[id]? with
  |some (.cells l)=>if off+n*Nat.max kd 1<=l.length/\(kd=0->((l.drop off).take n).all AV.one=true)then
    some (.list .any (if kd=0 then(l.drop off).take n else chunk kd n (l.drop off)),mem.put id .dead true)else none
  |_=>none
 |_=>none
def aJ(ev:bh->AV)(lk:Nat->Option (Nat×θ))(mem:Mem)(ay:cg)(dst:Option Nat)(o:AO):Option (AV×kB×Mem):=
 match o with
 | .bad=>none
 | .mv x=>some (ev x,none,mem)
 | .pick c a b=>match ev c with
  | .bool t=>some (if t then ev a else ev b,none,mem)
  |_=>none
 | .alloc oD z=>newVar lk mem oD dst z
 | .abld T e=>some (.κ mem.ε.length 0,none,mem.push (.ny T e []))
 | .box oD n x=>if(ev x).cells.length=n then newVar lk mem oD dst (ev x).cells else none
 | .build z parts=>(dG ev parts z).map fun l=>(.agg l,none,mem)
 | .ca ag sz xs=>if xs.all fun x=>shaped ag sz (ev x)then some (.list .full (xs.map fun x=>mem.ν (ev x)),none,mem)else none
 | .ld ag n a=>match rd lk mem (ev a) n with
  |some l=>(iu ag l).map fun v=>(v,none,mem)
  |none=>none
 | .st n a x=>if(ev x).cells.length=n then(wr lk mem (ev a) (ev x).cells).map fun(u,m)=>(.undef,u,m)else none
 | .vC x=>match ev x with
  | .ak d v o=>some (.ak d v o,none,mem)
  | .κ id o=>some (.κ id o,none,mem)
  | .ref l=>some (.ref l,none,mem)
  | .fn (.func f) a b=>some (.fn (.func f) a b,none,mem)
  | .fn (.yield f) a b=>some (.fn (.yield f) a b,none,mem)
  |_=>none
 | .bin op x y=>(iS op (ev x) (ev y)).map fun v=>(v,none,mem)
 | .eqs neg ks x y=>match ev x,ev y with
  | .agg a,.agg b=>(jH ks a b).map fun t=>(.bool (if neg then !t else t),none,mem)
  |_,_=>none
 | .x7 neg x y=>match ev x,ev y with
  | .bool a,.bool b=>some (.bool (if neg then !(a==b)else a==b),none,mem)
  |_,_=>none
 | .y_ neg k x=>(isNil k (ev x)).map fun t=>(.bool (if neg then !t else t),none,mem)
 | .un op x=>(jE op (ev x)).map fun v=>(v,none,mem)
 | .conv k x=>(mo k (ev x)).map fun v=>(v,none,mem)
 | .NY t x=>some (.iface t (ev x),none,mem)
 | .jf f a b=>some (.fn f (a.map ev) (b.map ev),none,mem)
 | .fa off x=>(jA (ev x) off).map fun v=>(v,none,mem)
 | .oz ag off n x=>match ev x with
  | .agg l=>if off+n<=l.length then(iu ag ((l.drop off).take n)).map fun v=>(v,none,mem)else none
  |_=>none
 | .ia sz x i=>match ev x,ev i with
  | .list _ l,.int _ n=>if 0<=n/\n<l.length then
    match l[n.toNat]? with
    |some e=>if e.cells.length=sz then some (.ref e.cells,none,mem)else none
    |none=>none
   else none
  | .sl _ id off m _,.int _ n=>if 0<=n/\n<m then some (.κ id (off+n.toNat*sz),none,mem)else none
  |_,_=>none
 | .rP len sz x i=>match ev i with
  | .int _ n=>if 0<=n/\n<len then(jA (ev x) (n.toNat*sz)).map fun v=>(v,none,mem)else none
  |_=>none
 | .Bf ag len sz x i=>match ev x,ev i with
  | .agg l,.int _ n=>if 0<=n/\n<len/\l.length=len*sz then(iu ag ((l.drop (n.toNat*sz)).take sz)).map fun v=>(v,none,mem)else none
  |_,_=>none
 | .lW x i=>match ev x,ev i with
  | .str s,.int _ n=>if 0<=n then(s[n.toNat]?).map fun(b:Nat)=>(AV.int .u8 (Int.ofNat b),none,mem)else none
  |_,_=>none
 | .lookup kk zero ok m k=>match ev m with
  | .fQ=>if isKey kk (ev k)then some (if ok then .aU [zero,.bool false]else zero,none,mem)else none
  | .map id=>match mem.ε[id]? with
   |some (.map es)=>if isKey kk (ev k)then(jz (ev k) es).map fun r=>match r with
     |some v=>(if ok then .aU [v,.bool true]else v,none,mem)
     |none=>(if ok then .aU [zero,.bool false]else zero,none,mem)
    else none
   |_=>none
  |_=>none
 | .mapup kk m k v=>match ev m with
  | .map id=>match mem.ε[id]? with
   |some (.map es)=>if isKey kk (ev k)&&plain (ev v)then(uj (ev k) (ev v) es).map fun eU=>(.undef,none,mem.put id (.map eU) true)else none
   |_=>none
  |_=>none
 | .mkmap=>some (.map mem.ε.length,none,mem.push (.map []))
 | .vK sz x lo hi mx=>match ev x with
  | .list c l=>if l.all fun e=>decide (e.cells.length=sz)then
    match bound ev l.length mx l.length with
    |some m=>match bound ev m hi l.length with
     |some h=>match bound ev h lo 0 with
      |some b=>some (.list (if c= .nil then .nil else if mx.isSome then(if m=h then .full else .any)else if c= .full/\h=l.length then .full else .any) ((l.take h).drop b),none,mem)
      |none=>none
     |none=>none
    |none=>none
   else none
  | .sl kd id off n cap=>match mx with
   |some _=>none
   |none=>match bound ev n hi n with
    |some h=>match bound ev h lo 0 with
     |some b=>if b=0\/b<n then some (.sl kd id (off+b*sz) (h-b) (cap-b),none,mem)else none
     |none=>none
    |none=>none
  |_=>none
 | .zG x lo hi=>match ev x with
  | .str s=>match bound ev s.length hi s.length with
   |some h=>match bound ev h lo 0 with
    |some b=>some (.str ((s.take h).drop b),none,mem)
    |none=>none
   |none=>none
  |_=>none
 | .ext x k=>match ev x with
  | .aU l=>(l[k]?).map fun v=>(v,none,mem)
  |_=>none
 | .call f args=>(ay (ev f) (args.map ev) mem).map fun(v,m)=>(v,none,m)
 | .app ag sz bytes e x y=>(iq mem ag sz bytes e (ev x) (ev y)).map fun(v,m)=>(v,none,m)
 | .callz f args=>match ay (ev f) (args.map ev) mem with
  |some (v,m)=>(fz m v).map fun(v,m)=>(v,none,m)
  |none=>none
 | .appm ag sz bytes _ x y=>(vZ mem ag sz bytes (ev x) (ev y)).map fun(v,m)=>(v,none,m)
 | .len x=>match ev x with
  | .list _ l=>some (.int .i64 l.length,none,mem)
  | .sl _ _ _ n _=>some (.int .i64 n,none,mem)
  |_=>none
 | .mkslc kd z bytes n c=>match ev n,ev c with
  | .int _ n,.int _ c=>if 0<=n/\n<=c/\(bytes:Int)*c<=281474976710656/\c<=9223372036854775807 then
    some (.sl kd mem.ε.length 0 n.toNat c.toNat,none,mem.push (.cells ((rep c.toNat z).map mem.ν)))
   else none
  |_,_=>none
 | .cpy sz x y=>match ev x with
  | .sl _ id off n _=>match cellsOf mem sz (ev y)with
   |some (k,cs)=>(wr (fun _=>none) mem (.κ id off) (cs.take (akh k n*sz))).map fun(_,m)=>(.int .i64 (akh k n:Nat),none,m)
   |none=>none
  |_=>none
 | .clr z x=>match ev x with
  | .list _ []=>some (.undef,none,mem)
  | .sl _ id off n _=>if n=0 then some (.undef,none,mem)else(wr (fun _=>none) mem (.κ id off) (rep n z)).map fun(_,m)=>(.undef,none,m)
  |_=>none
 | .lens x=>match ev x with
  | .str s=>some (.int .i64 s.length,none,mem)
  |_=>none
 | .NM n=>some (.int .i64 n,none,mem)
 | .D1 x=>match ev x with
  | .fQ=>some (.int .i64 0,none,mem)
  | .map id=>match mem.ε[id]? with
   |some (.map es)=>some (.int .i64 es.length,none,mem)
   |_=>none
  |_=>none
 | .del kk m k=>match ev m with
  | .map id=>match mem.ε[id]? with
   |some (.map es)=>if isKey kk (ev k)then(xf (ev k) es).map fun eU=>(.undef,none,mem.put id (.map eU) true)else none
   |_=>none
  |_=>none
 | .max x y=>match ev x,ev y with
  | .int k a,.int k' b=>if k=k' then some (.int k (if b>a then b else a),none,mem)else none
  |_,_=>none
 | .min x y=>match ev x,ev y with
  | .int k a,.int k' b=>if k=k' then some (.int k (if b<a then b else a),none,mem)else none
  |_,_=>none
 | .qQ x=>match ev x,dst with
  | .str s,some d=>some (.ak d (bJ lk d) 0,some (d,bJ lk d,.iter s 0),mem)
  |_,_=>none
 | .zl x=>match ev x with
  | .ak d v 0=>match lk d with
   |some (v',.iter s pos)=>if v'=v then
     if pos<s.length then
      let r:=Utf8.decode ⟨(s.map UInt8.ofNat).toArray⟩ pos
      some (.aU [.bool true,.int .i64 pos,.int .i32 r.1],some (d,v,.iter s (pos+r.2)),mem)
     else some (.aU [.bool false],none,mem)
    else none
   |_=>none
  |_=>none
inductive Ex
 |normal
 |exit (id:Nat)
 |ret
 deriving DecidableEq,Inhabited
structure St where
 env:List AV
 loc:Loc
 mem:Mem
 deriving Inhabited
def dF(gl:Nat->AV)(env:List AV):bh->AV
 | .t n=>br env n
 | .c v=>v
 | .g n=>gl n
def e_(env:List AV):Option (Nat×Bool)->Option Bool
 |none=>some true
 |some (d,want)=>match br env d with
  | .bool b=>some (b==want)
  | .undef=>some false
  |_=>none
def fE(env:List AV):Option Nat->AV->List AV
 |none,_=>env
 |some d,v=>mL env d v
def eR(loc:Loc):kB->Loc
 |none=>loc
 |some (d,v,b)=>xd loc d (v,b)
def dR(gl:Nat->AV)(ay:cg)(o:aN)(s:St):Option St:=
 match e_ s.env o.guard with
 |none=>none
 |some true=>match aJ (dF gl s.env) (bR s.loc) s.mem ay o.dst o.op with
  |some (v,u,m)=>some {env:=fE s.env o.dst v,loc:=eR s.loc u,mem:=m}
  |none=>none
 |some false=>some {s with env:=fE s.env o.dst .undef}
def ef(gl:Nat->AV)(ay:cg):List aN->St->Option St
 |[],s=>some s
 |o::l,s=>match dR gl ay o s with
  |some s'=>ef gl ay l s'
  |none=>none
def eF(gl:Nat->AV)(ay:cg):List aN->St->Option (List St)
 |[],s=>some [s]
 |o::l,s=>match dR gl ay o s with
  |some s'=>(eF gl ay l s').map (s::·)
  |none=>none
def fL:Option (List AV)->Option (List AV)->Bool
 |some a,some b=>AV.gO a b
 |_,_=>false
def de(l:List aN)(j:Nat):Bool:=match l[j]? with
 |some o=>match o.op with
  | .st _ _ _=>true
  |_=>false
 |none=>false
def c7(gl:Nat->AV)(l:List aN)(tr:List St)(i j:Nat):Bool:=
 match l[i]?,tr[i]?,tr[j]?,tr[j+1]? with
 |some o,some si,some sj,some EB=>
  match e_ si.env o.guard,o.op with
  |some false,_=>true
  |_,.ld _ n a=>match dF gl si.env a with
   | .κ id off=>fL (rd (fun _=>none) sj.mem (.κ id off) n) (rd (fun _=>none) si.mem (.κ id off) n)&&
     fL (rd (fun _=>none) EB.mem (.κ id off) n) (rd (fun _=>none) si.mem (.κ id off) n)
   | .ak d v off=>!(de l j)||fL (rd (bR sj.loc) {ε:=[],η:=[]} (.ak d v off) n) (rd (bR si.loc) {ε:=[],η:=[]} (.ak d v off) n)&&
     fL (rd (bR EB.loc) {ε:=[],η:=[]} (.ak d v off) n) (rd (bR si.loc) {ε:=[],η:=[]} (.ak d v off) n)
   |_=>true
  |_,_=>false
 |_,_,_,_=>false
def uV(gl:Nat->AV)(l:List aN)(tr:List St)(i j:Nat):Bool:=
 match l[i]?,l[j]?,tr[j]? with
 |some oi,some o,some sj=>match o.op with
  | .ld _ _ a=>match dF gl sj.env a with
   | .ak d _ _=>oi.dst !=some d
   |_=>true
  |_=>false
 |_,_,_=>false
def ff(gl:Nat->AV)(ay:cg)(l:List aN)(cf af:List (Nat×Nat))(s:St):Option St:=
 match eF gl ay l s with
 |some tr=>if cf.all (fun p=>c7 gl l tr p.1 p.2)&&af.all (fun p=>uV gl l tr p.1 p.2)then tr.getLast? else none
 |none=>none
abbrev pd:=(St->Option (Ex×St))->St->Option (Ex×St)
def θ.Bz(n:Nat):θ->θ
 | .cells l=> .cells (l.map (exp n true))
 |b=>b
def θ.clean(id:Nat):θ->Bool
 | .cells l=>bn id l
 |_=>true
def lF(n:Nat):List Nat->List θ->List θ
 |[],bs=>bs
 |i::l,bs=>lF n l (match bs[i]? with
  |some b=>bs.set i (b.Bz n)
  |none=>bs)
def Mem.back(m0 m:Mem):Mem:=
 let n:=m0.ε.length
 let bs:=lF n m.η (m.ε.take n)
 {ε:=bs,η:=m0.η++m.η.filter fun i=>match bs[i]? with
   |some b=>!b.clean i
   |none=>false}
def AV.DS:AV->Option AV
 | .fn (.func f) a b=>some (.fn (.func f) a b)
 |_=>none
def Eg(d:Nat)(s:St):Option St:=
 match br s.env d with
 | .ak d' v 0=>match bR s.loc d with
  |some (v',.cells l)=>if d'=d/\v'=v then
    some {env:=mL s.env d (.κ s.mem.ε.length 0),loc:=xd s.loc d (v,.dead),mem:=s.mem.push (.cells (l.map s.mem.ν))}else none
  |_=>none
 |_=>none
def Bv:List Nat->St->Option St
 |[],s=>some s
 |d::l,s=>match Eg d s with
  |some s'=>Bv l s'
  |none=>none
def exec(gl:Nat->AV)(ay:cg)(lp:pd):AC->St->Option (Ex×St)
 | .skip,s=>some (.normal,s)
 | .ops l,s=>(ef gl ay l s).map fun s'=>(.normal,s')
 | .draw l cf af,s=>(ff gl ay l cf af s).map fun s'=>(.normal,s')
 | .seq a b,s=>match exec gl ay lp a s with
  |some (.normal,s')=>exec gl ay lp b s'
  |r=>r
 | .cond x a b,s=>match dF gl s.env x with
  | .bool t=>if t then exec gl ay lp a s else exec gl ay lp b s
  |_=>none
 | .block id a,s=>match exec gl ay lp a s with
  |some (.exit i,s')=>if i=id then some (.normal,s')else some (.exit i,s')
  |r=>r
 | .loop a,s=>lp (exec gl ay lp a) s
 | .exit id,s=>some (.exit id,s)
 | .ret,s=>some (.ret,s)
 | .xy f ps fK body,s=>
  match(dF gl s.env f).DS.bind fun f=>ay f [.fn (.yield s.mem.ε.length) [] []] {ε:=s.mem.ε++[.loop (s.env.map s.mem.ν) ps fK body .ready],η:=[]}with
  |some (_,m)=>match m.ε[s.mem.ε.length]? with
   |some (.loop _ _ _ _ .ready)=>some (.normal,{s with mem:=s.mem.back m})
   |some (.loop _ _ _ _ (.done none))=>some (.ret,{s with mem:=s.mem.back m})
   |some (.loop _ _ _ _ (.done (some i)))=>some (.exit i,{s with mem:=s.mem.back m})
   |_=>none
  |none=>none
 | .Ef ds,s=>(Bv ds s).map fun s'=>(.normal,s')
 | .bad,_=>none
def fJ:Nat->pd
 |0,_,_=>none
 |n+1,body,s=>match body s with
  |some (.normal,s')=>fJ n body s'
  |r=>r
inductive RV
 |tmp (t:Nat)
 |cell (a:Nat) (ag:Bool) (n:Nat)
 deriving Inhabited
structure AF where
 ntmps:Nat
 results:List RV
 code:AC
 deriving Inhabited
abbrev Prim:=List AV->Mem->Option (AV×Mem)
structure iF where
 gl:Nat->AV
 fs:Nat->Option AF
 gM:Nat->Option Prim
 ba:Nat->Bool
 alts:Nat->Option AF:=fun _=>none
def RV.get(s:St):RV->Option AV
 | .tmp t=>some (br s.env t)
 | .cell a ag n=>match rd (bR s.loc) s.mem (br s.env a) n with
  |some l=>iu ag l
  |none=>none
def cF(s:St):List RV->Option (List AV)
 |[]=>some []
 |r::l=>match r.get s with
  |some v=>(cF s l).map (v::·)
  |none=>none
def cK:List AV->AV
 |[v]=>v
 |l=> .aU l
def fin(g:AF)(ba:Bool)(m0:Mem):Option (Ex×St)->Option (AV×Mem)
 |some (.exit _,_)=>none
 |some (_,s)=>match cF s g.results with
  |some l=>if ba then some (exp s.mem.ε.length true (cK l),{ε:=s.mem.ε,η:=m0.η++s.mem.η})
    else some (aQ s.mem.ε m0.ε.length 8 (cK l),m0.back s.mem)
  |none=>none
 |none=>none
def vJ:List AV->List Nat->List AV->List AV
 |env,[],_=>env
 |env,_,[]=>env
 |env,p::ps,v::vs=>vJ (mL env p v) ps vs
def Mem.kM(m:Mem)(l:Nat)(st:LS):Mem:=
 match m.ε[l]? with
 |some (.loop env ps fK body _)=> {m with ε:=m.ε.set l (.loop env ps fK body st)}
 |_=>m
def Mem.ls(m:Mem)(l:Nat):Option LS:=
 match m.ε[l]? with
 |some (.loop _ _ _ _ st)=>some st
 |_=>none
def round(ex:AC->St->Option (Ex×St))(l:Nat)(args:List AV)(mem:Mem):Option (AV×Mem):=
 match mem.ε[l]? with
 |some (.loop env ps fK body _)=>
  if ps.length=args.length then
   match ex fK {env:=vJ env ps (args.map (exp mem.ε.length false)),loc:=[],mem:=mem}with
   |some (.normal,s1)=>
    if s1.mem.ls l=some .ready then
     match ex body {s1 with mem:=s1.mem.kM l .busy}with
     |some (.normal,s2)=>if s2.mem.ls l=some .busy then some (.bool true,s2.mem.kM l .ready)else none
     |some (.ret,s2)=>if s2.mem.ls l=some .busy then some (.bool false,s2.mem.kM l (.done none))else none
     |some (.exit i,s2)=>if s2.mem.ls l=some .busy then some (.bool false,s2.mem.kM l (.done (some i)))else none
     |none=>none
    else none
   |_=>none
  else none
 |_=>none
def body(C:iF)(ay:cg)(lp:pd):cg:=fun fv args mem=>
 match fv with
 | .fn (.func f) first cap=>
  match C.gM f with
  |some p=>p ((first++args++cap).map (exp mem.ε.length (C.ba f))) mem
  |none=>match C.fs f with
   |some g=>fin g (C.ba f) mem (exec C.gl ay lp g.code
     {env:=(first++args++cap).map (exp mem.ε.length (C.ba f)),loc:=[],mem:= {ε:=mem.ε,η:=[]}})
   |none=>none
 | .fn (.methodOf f _) first cap=>
  match C.alts f with
  |some g=>fin g true mem (exec C.gl ay lp g.code
    {env:=(first++args++cap).map (exp mem.ε.length true),loc:=[],mem:= {ε:=mem.ε,η:=[]}})
  |none=>none
 | .fn (.yield l) [] []=>round (exec C.gl ay lp) l args mem
 |_=>none
def cv(C:iF):Nat->cg
 |0=>fun _ _ _=>none
 |n+1=>body C (cv C n) (fJ n)
def cg.le(c c':cg):Prop:=∀fv args mem r,c fv args mem=some r->c' fv args mem=some r
def pd.le(l l':pd):Prop:=∀b b':St->Option (Ex×St),(∀s r,b s=some r->b' s=some r)->∀s r,l b s=some r->l' b' s=some r
theorem X1{ev lk mem dst o r}{c c':cg}(h:c.le c')(hr:aJ ev lk mem c dst o=some r):aJ ev lk mem c' dst o=some r:=by
 cases o<;>try exact hr
 case call f args=>
  simp only[aJ,bA]at hr⊢
  obtain⟨x,hx,rfl⟩:=hr;exact⟨x,h _ _ _ _ hx,rfl⟩
 case callz f args=>
  simp only[aJ]at hr⊢
  split at hr
  ·rename_i v m he;rw[h _ _ _ _ he];exact hr
  ·cases hr
theorem E5{gl o s r}{c c':cg}(h:c.le c')(hr:dR gl c o s=some r):dR gl c' o s=some r:=by
 unfold dR at hr⊢;split at hr
 ·cases hr
 ·split at hr
  ·rename_i he;rw[X1 h he];exact hr
  ·cases hr
 ·exact hr
theorem PC{gl l s r}{c c':cg}(h:c.le c')(hr:ef gl c l s=some r):ef gl c' l s=some r:=by
 induction l generalizing s with
 |nil=>exact hr
 |cons o l ih=>
  simp only[ef]at hr⊢
  split at hr
  ·rename_i he;rw[E5 h he];exact ih hr
  ·cases hr
theorem PJ{gl l s r}{c c':cg}(h:c.le c')(hr:eF gl c l s=some r):eF gl c' l s=some r:=by
 induction l generalizing s r with
 |nil=>exact hr
 |cons o l ih=>
  simp only[eF]at hr⊢
  split at hr
  ·rename_i he;rw[E5 h he];simp only[bA]at hr⊢;obtain⟨x,hx,rfl⟩:=hr;exact⟨x,ih hx,rfl⟩
  ·cases hr
theorem XR{gl l cf af s r}{c c':cg}(h:c.le c')(hr:ff gl c l cf af s=some r):ff gl c' l cf af s=some r:=by
 unfold ff at hr⊢;split at hr
 ·rename_i he;rw[PJ h he];exact hr
 ·cases hr
theorem FE{gl}{c c':cg}{l l':pd}(h:c.le c')(hl:l.le l')(a:AC):∀s r,exec gl c l a s=some r->exec gl c' l' a s=some r:=by
 induction a with
 |skip=>intro s r hr;exact hr
 |ops x=>
  intro s r hr
  simp only[exec,bA]at hr⊢;obtain⟨x,hx,rfl⟩:=hr;exact⟨x,PC h hx,rfl⟩
 |draw x cf af=>
  intro s r hr
  simp only[exec,bA]at hr⊢;obtain⟨x,hx,rfl⟩:=hr;exact⟨x,XR h hx,rfl⟩
 |seq a b dJ gm=>
  intro s r hr
  simp only[exec]at hr⊢;split at hr
  ·rename_i he;rw[dJ _ _ he];exact gm _ _ hr
  ·rename_i φ;rw[dJ _ _ hr];split
   ·rename_i he;rw[he]at hr;exact absurd hr (φ _)
   ·rfl
 |cond x a b dJ gm=>
  intro s r hr
  simp only[exec]at hr⊢;split at hr
  ·split at hr
   ·rename_i he ht;simp only[ht,if_true];exact dJ _ _ hr
   ·rename_i he ht;simp only[ht];exact gm _ _ hr
  ·cases hr
 |block id a dJ=>
  intro s r hr
  simp only[exec]at hr⊢;split at hr
  ·rename_i he;rw[dJ _ _ he];exact hr
  ·rename_i φ;rw[dJ _ _ hr];split
   ·rename_i he;rw[he]at hr;exact absurd hr (φ _ _)
   ·rfl
 |loop a dJ=>
  intro s r hr
  simp only[exec]at hr⊢;exact hl _ _ dJ _ _ hr
 |exit id=>intro s r hr;exact hr
 |ret=>intro s r hr;exact hr
 |xy f ps fK body _ _=>
  intro s r hr
  simp only[exec]at hr⊢;split at hr
  ·rename_i he;obtain⟨fv,h1,h2⟩:=Option.bind_eq_some_iff.1 he;rw[h1];simp only[Option.bind_some,h _ _ _ _ h2];exact hr
  ·cases hr
 |Ef ds=>intro s r hr;exact hr
 |bad=>intro s r hr;exact hr
theorem E3(n n':Nat)(h:n<=n'):pd.le (fJ n) (fJ n'):=by
 intro b b' hb s r hr;induction n generalizing n' s with
 |zero=>simp[fJ]at hr
 |succ n ih=>
  obtain⟨m,rfl⟩:∃m,n'=m+1:=⟨n'-1,by omega⟩
  simp only[fJ]at hr⊢;split at hr
  ·rename_i he;rw[hb _ _ he];exact ih m (by omega) _ hr
  ·rename_i φ;rw[hb _ _ hr];split
   ·rename_i he;rw[he]at hr;exact absurd hr (φ _)
   ·rfl
theorem ah4{e e':AC->St->Option (Ex×St)}(h:∀a s r,e a s=some r->e' a s=some r){l args mem r}(hr:round e l args mem=some r):round e' l args mem=some r:=by
 unfold round at hr⊢;split at hr
 ·split at hr
  ·rename_i hlen;simp only[hlen,if_true];split at hr
   ·rename_i he;rw[h _ _ _ he];dsimp only at hr⊢;split at hr
    ·rename_i nO;simp only[nO,if_true];split at hr
     ·rename_i lT;simp only[h _ _ _ lT];exact hr
     ·rename_i lT;simp only[h _ _ _ lT];exact hr
     ·rename_i lT;simp only[h _ _ _ lT];exact hr
     ·cases hr
    ·cases hr
   ·cases hr
  ·cases hr
 ·cases hr
theorem YA{C:iF}{c c':cg}{l l':pd}(h:c.le c')(hl:l.le l'):(body C c l).le (body C c' l'):=by
 intro fv args mem r hr;unfold body at hr⊢;split at hr
 ·split at hr
  ·exact hr
  ·split at hr
   ·rename_i hg;generalize he:exec C.gl c l _ _=x at hr;cases x with
    |none=>simp[fin]at hr
    |some x=>simp only[FE h hl _ _ _ he];exact hr
   ·cases hr
 ·split at hr
  ·rename_i hg;generalize he:exec C.gl c l _ _=x at hr;cases x with
   |none=>simp[fin]at hr
   |some x=>simp only[FE h hl _ _ _ he];exact hr
  ·cases hr
 ·exact ah4 (fun a s r=>FE h hl a s r) hr
 ·cases hr
theorem ZF(C:iF)(n:Nat):(cv C n).le (cv C (n+1)):=by
 induction n with
 |zero=>intro fv args mem r hr;simp[cv]at hr
 |succ n ih=>exact YA ih (E3 _ _ (by omega))
theorem xX(C:iF){n n':Nat}(h:n<=n'):(cv C n).le (cv C n'):=by
 induction h with
 |refl=>exact fun _ _ _ _ h=>h
 |step _ ih=>exact fun _ _ _ _ h=>ZF C _ _ _ _ _ (ih _ _ _ _ h)
structure Gh where
 im:Nat->Nat->Option Value
 mb:Nat->Option Nat
 rows:Nat->Nat->Option (Nat×Nat)
abbrev LB:=Nat->Nat->Option Nat
def Gh.sub(g g':Gh):Prop:=
 (∀b o x,g.im b o=some x->g'.im b o=some x)/\(∀id b,g.mb id=some b->g'.mb id=some b)/\(∀t n x,g.rows t n=some x->g'.rows t n=some x)
def Gh.cut(g:Gh)(n:Nat):Gh:=
 {im:=g.im,mb:=fun id=>if id<n then g.mb id else none,rows:=fun t m=>if t<n then g.rows t m else none}
def mP(g:Gh)(n b o cap:Nat):τ->Prop
 | .any=>True
 | .full=>cap=n
 | .nil=>False
 | .own t=>o=0/\g.rows t n=some (b,cap)
def bP:LB:=fun _ _=>none
def sh(mb:Nat->Option Nat):Fn->Fn->Prop
 | .func f,.func f'=>f'=f
 | .methodOf f _,.func f'=>f'=f
 | .yield i,.yield b=>mb i=some b
 |_,_=>False
theorem sh.mono{mb mJ:Nat->Option Nat}(hm:∀i b,mb i=some b->mJ i=some b){f f':Fn}(h:sh mb f f'):sh mJ f f':=by cases f<;>cases f'<;>first|exact h|exact hm _ _ h|exact h.elim
inductive VR (g:Gh):LB->AV->Value->Prop
 |undef (lb:LB):VR g lb .undef (.tuple #[])
 |cR (lb:LB) (x:Value) (h:x.oneCell'=true):VR g lb .cR x
 |int (lb:LB) (k:IntKind) (n:Int):VR g lb (.int k n) (.int k n)
 |bool (lb:LB) (b:Bool):VR g lb (.bool b) (.bool b)
 |str (lb:LB) (b:ByteArray) (s:List Nat) (h:b.data.toList.map UInt8.toNat=s):VR g lb (.str s) (.string b)
 |ig (lb:LB):VR g lb .ig (.pointer none)
 |ak (lb:LB) (d v off b:Nat) (h:lb d v=some b):VR g lb (.ak d v off) (.pointer (some ⟨b,off,none⟩))
 |κ (lb:LB) (id off b:Nat) (h:g.mb id=some b):VR g lb (.κ id off) (.pointer (some ⟨b,off,none⟩))
 |ref (lb:LB) (l:List AV) (b o:Nat) (xs:Nat->Value) (cx:∀i,i<l.length->g.im b (o+i)=some (xs i)/\(xs i).oneCell'=true)
   (hv:∀i (h:i<l.length),VR g bP l[i] (xs i)):VR g lb (.ref l) (.pointer (some ⟨b,o,none⟩))
 |iM (lb:LB):VR g lb (.list .nil []) (.slice none 0 0)
 |h_ (lb:LB) (c:τ) (a:Addr) (cap:Nat) (hc:c= .any\/(c= .full/\cap=0)):VR g lb (.list c []) (.slice (some a) 0 cap)
 |sl (lb:LB) (kd id off n cap gh b:Nat) (hc:n<=cap) (ew:cap<=gh) (h:g.mb id=some b):VR g lb (.sl kd id off n cap) (.slice (some ⟨b,off,none⟩) n gh)
 |list (lb:LB) (c:τ) (l:List AV) (b o sz n cap:Nat) (xs:Nat->Nat->Value) (hn:l.length=n) (dN:n<=cap) (hc:mP g n b o cap c)
   (aO:∀e∈l,e.cells.length=sz)
   (cx:∀i,i<n->∀j,j<sz->g.im b (o+(i*sz+j))=some (xs i j)/\(xs i j).oneCell'=true)
   (hv:∀i (h:i<l.length) j (hj:j<l[i].cells.length),VR g bP l[i].cells[j] (xs i j)):VR g lb (.list c l) (.slice (some ⟨b,o,none⟩) n cap)
 |agg (lb:LB) (l:List AV) (a:Array Value) (hs:a.size=l.length) (h1:∀i (h:i<a.size),a[i].oneCell'=true)
   (hv:∀i (h:i<l.length) (h':i<a.size),VR g lb l[i] a[i]):VR g lb (.agg l) (.agg a)
 |aU (lb:LB) (l:List AV) (a:Array Value) (hs:a.size=l.length)
   (hv:∀i (h:i<l.length) (h':i<a.size),VR g lb l[i] a[i]):VR g lb (.aU l) (.tuple a)
 |fn (lb:LB) (f f':Fn) (l m:List AV) (a b:Array Value) (hs:a.size=l.length) (ht:b.size=m.length)
   (hy:sh g.mb f f')
   (hv:∀i (h:i<l.length) (h':i<a.size),VR g lb l[i] a[i]) (hw:∀i (h:i<m.length) (h':i<b.size),VR g lb m[i] b[i]):
   VR g lb (.fn f l m) (.func f' a b)
 |eQ (lb:LB):VR g lb .eQ .nilFunc
 |iface (lb:LB) (t:TypeId) (v:AV) (x:Value) (h:VR g lb v x):VR g lb (.iface t v) (.iface t x)
 |gq (lb:LB):VR g lb .gq .nilIface
 |map (lb:LB) (id b:Nat) (h:g.mb id=some b):VR g lb (.map id) (.map (some b))
 |fQ (lb:LB):VR g lb .fQ (.map none)
theorem Q8{g g':Gh}{n b o cap:Nat}{c:τ}(hg:g.sub g')(h:mP g n b o cap c):mP g' n b o cap c:=by
 cases c with
 |any=>trivial
 |full=>exact h
 |nil=>exact h
 |own t=>exact⟨h.1,hg.2.2 _ _ _ h.2⟩
theorem VR.mono{g g':Gh}{lb lb':LB}{v:AV}{x:Value}(hg:g.sub g')(hl:∀d i b,lb d i=some b->lb' d i=some b)(h:VR g lb v x):VR g' lb' v x:=by
 induction h generalizing lb' with
 |undef=>exact .undef _
 |cR _ x h=>exact .cR _ x h
 |int _ k n=>exact .int _ k n
 |bool _ b=>exact .bool _ b
 |str _ b s h=>exact .str _ b s h
 |ig=>exact .ig _
 |ak _ d v off b h=>exact .ak _ d v off b (hl _ _ _ h)
 |κ _ id off b h=>exact .κ _ id off b (hg.2.1 _ _ h)
 |ref _ l b o xs cx _ ih=>exact .ref _ l b o xs (fun i hi=>⟨hg.1 _ _ _ (cx i hi).1,(cx i hi).2⟩) fun i hi=>ih i hi fun _ _ _ h=>h
 |iM=>exact .iM _
 |h_ _ c a cap hc=>exact .h_ _ c a cap hc
 |sl _ kd id off n cap gh b hc ew h=>exact .sl _ kd id off n cap gh b hc ew (hg.2.1 _ _ h)
 |list _ c l b o sz n cap xs hn dN hc aO cx _ ih=>exact .list _ c l b o sz n cap xs hn dN (Q8 hg hc) aO (fun i hi j hj=>⟨hg.1 _ _ _ (cx i hi j hj).1,(cx i hi j hj).2⟩) fun i hi j hj=>ih i hi j hj fun _ _ _ h=>h
 |agg _ l a hs h1 _ ih=>exact .agg _ l a hs h1 fun i hi ae=>ih i hi ae hl
 |aU _ l a hs _ ih=>exact .aU _ l a hs fun i hi ae=>ih i hi ae hl
 |fn _ f f' l m a b hs ht hy _ _ qC oR=>exact .fn _ f f' l m a b hs ht (hy.mono hg.2.1) (fun i hi ae=>qC i hi ae hl) (fun i hi ae=>oR i hi ae hl)
 |eQ=>exact .eQ _
 |iface _ t v x _ ih=>exact .iface _ t v x (ih hl)
 |gq=>exact .gq _
 |map _ id b h=>exact .map _ id b (hg.2.1 _ _ h)
 |fQ=>exact .fQ _
theorem Gh.eM(g:Gh):g.sub g:=⟨fun _ _ _ h=>h,fun _ _ h=>h,fun _ _ _ h=>h⟩
theorem Gh.BH{a b c:Gh}(h:a.sub b)(k:b.sub c):a.sub c:=
 ⟨fun _ _ _ x=>k.1 _ _ _ (h.1 _ _ _ x),fun _ _ x=>k.2.1 _ _ (h.2.1 _ _ x),fun _ _ _ x=>k.2.2 _ _ _ (h.2.2 _ _ _ x)⟩
theorem VR.sub{g g':Gh}{lb:LB}{v:AV}{x:Value}(hg:g.sub g')(h:VR g lb v x):VR g' lb v x:=h.mono hg fun _ _ _ h=>h
theorem Fl(n:Nat)(k:Bool)(v:AV):(exp n k v).cells=v.cells.map (exp n k):=by
 cases v with
 |κ id off=>simp only[exp,AV.cells,ax,aI];by_cases h:id<n<;>simp[h]
 |fn f a b=>simp only[exp,AV.cells,ax,aI];by_cases h:Fn.below n f=true<;>simp[h]
 |map id=>simp only[exp,AV.cells,ax,aI];by_cases h:id<n<;>simp[h]
 |sl kd id off m cap=>simp only[exp,AV.cells,ax,aI];by_cases h:id<n<;>simp[h]
 |_=>simp[exp,AV.cells,ft]
theorem Q7{g:Gh}{n b o cap m:Nat}{k:Bool}{c:τ}(h:mP g n b o cap c):mP (g.cut m) n b o cap (c.exp m k):=by
 cases c with
 |any=>trivial
 |nil=>exact h
 |full=>
  simp only[τ.exp]
  split
  ·exact h
  ·trivial
 |own t=>
  simp only[τ.exp]
  split
  ·rename_i hk;simp only[dy,decide_eq_true_eq]at hk;exact⟨h.1,by simp only[Gh.cut,hk.2,if_true];exact h.2⟩
  ·trivial
theorem VR.exp{g:Gh}{lb lb':LB}{v:AV}{x:Value}(m:Nat)(k:Bool)(h:VR g lb v x):VR (g.cut m) lb' (exp m k v) x:=by
 induction h generalizing lb' with
 |undef=>exact .undef _
 |cR _ x h=>exact .cR _ x h
 |int _ k n=>exact .int _ k n
 |bool _ b=>exact .bool _ b
 |str _ b s h=>exact .str _ b s h
 |ig=>exact .ig _
 |ak _ d v off b h=>exact .cR _ _ rfl
 |κ _ id off b h=>
  simp only[Δ.exp]
  split
  ·rename_i hi;exact .κ _ id off b (by simp only[Gh.cut,hi,if_true];exact h)
  ·exact .cR _ _ rfl
 |ref _ l b o xs cx _ ih=>
  simp only[Δ.exp,ft]
  refine .ref _ _ b o xs (fun i hi=>cx i (by simpa using hi)) (fun i hi=>?_);simp only[iQ];exact ih i (by simpa using hi)
 |iM=>
  simp only[Δ.exp,ft,aI,τ.exp]
  exact .iM _
 |h_ _ c a cap hc=>
  simp only[Δ.exp,ft,aI]
  refine .h_ _ _ a cap ?_;rcases hc with rfl|⟨rfl,h⟩
  ·exact .inl rfl
  ·simp only[τ.exp];split
   ·exact .inr ⟨rfl,h⟩
   ·exact .inl rfl
 |sl _ kd id off n cap gh b hc ew h=>
  simp only[Δ.exp]
  split
  ·rename_i hi;exact .sl _ kd id off n cap gh b hc ew (by simp only[Gh.cut,hi,if_true];exact h)
  ·exact .cR _ _ rfl
 |list _ c l b o sz n cap xs hn dN hc aO cx _ ih=>
  simp only[Δ.exp,ft]
  refine .list _ _ _ b o sz n cap xs (by simpa using hn) dN (Q7 hc) ?_ cx ?_
  ·intro e he;obtain⟨e',sN,rfl⟩:=fb.1 he;rw[Fl,cz];exact aO e' sN
  ·intro i hi j hj;have ae:i<l.length:=by simpa using hi
   have dI:j<l[i].cells.length:=by simpa[Fl]using hj
   have:=ih i ae j dI (lb':=bP);simpa[Fl]using this
 |agg _ l a hs h1 _ ih=>
  simp only[Δ.exp,ft]
  refine .agg _ _ a (by simpa using hs) h1 fun i hi ae=>?_;simp only[iQ];exact ih i (by simpa using hi) ae
 |aU _ l a hs _ ih=>
  simp only[Δ.exp,ft]
  refine .aU _ _ a (by simpa using hs) fun i hi ae=>?_;simp only[iQ];exact ih i (by simpa using hi) ae
 |fn _ f f' l m' a b hs ht hy _ _ qC oR=>
  simp only[Δ.exp,ft]
  split
  ·rename_i hf;refine .fn _ f f' _ _ a b (by simpa using hs) (by simpa using ht) ?_ (fun i hi ae=>?_) (fun i hi ae=>?_)
   ·cases f<;>cases f'<;>first|exact hy|exact hy.elim|skip
    simp only[Fn.below,decide_eq_true_eq]at hf;simp only[sh,Gh.cut,hf,if_true];exact hy
   ·simp only[iQ];exact qC i (by simpa using hi) ae
   ·simp only[iQ];exact oR i (by simpa using hi) ae
  ·exact .cR _ _ rfl
 |eQ=>exact .eQ _
 |iface _ t v x _ ih=>exact .iface _ t _ x ih
 |gq=>exact .gq _
 |map _ id b h=>
  simp only[Δ.exp]
  split
  ·rename_i hi;exact .map _ id b (by simp only[Gh.cut,hi,if_true];exact h)
  ·exact .cR _ _ rfl
 |fQ=>exact .fQ _
theorem Fm(v:AV):(ν v).cells=v.cells.map ν:=by cases v<;>simp[ν,AV.cells,fH]
theorem VR.ν{g:Gh}{lb lb':LB}{v:AV}{x:Value}(h:VR g lb v x):VR g lb' (ν v) x:=by
 induction h generalizing lb' with
 |undef=>exact .undef _
 |cR _ x h=>exact .cR _ x h
 |int _ k n=>exact .int _ k n
 |bool _ b=>exact .bool _ b
 |str _ b s h=>exact .str _ b s h
 |ig=>exact .ig _
 |ak _ d v off b h=>exact .cR _ _ rfl
 |κ _ id off b h=>exact .κ _ id off b h
 |ref _ l b o xs cx _ ih=>
  simp only[Δ.ν,fH]
  refine .ref _ _ b o xs (fun i hi=>cx i (by simpa using hi)) (fun i hi=>?_);simp only[iQ];exact ih i (by simpa using hi)
 |iM=>
  simp only[Δ.ν,fH,aI]
  exact .iM _
 |h_ _ c a cap hc=>
  simp only[Δ.ν,fH,aI]
  exact .h_ _ c a cap hc
 |sl _ kd id off n cap gh b hc ew h=>exact .sl _ kd id off n cap gh b hc ew h
 |list _ c l b o sz n cap xs hn dN hc aO cx _ ih=>
  simp only[Δ.ν,fH]
  refine .list _ _ _ b o sz n cap xs (by simpa using hn) dN hc ?_ cx ?_
  ·intro e he;obtain⟨e',sN,rfl⟩:=fb.1 he;rw[Fm,cz];exact aO e' sN
  ·intro i hi j hj;have ae:i<l.length:=by simpa using hi
   have dI:j<l[i].cells.length:=by simpa[Fm]using hj
   have:=ih i ae j dI (lb':=bP);simpa[Fm]using this
 |agg _ l a hs h1 _ ih=>
  simp only[Δ.ν,fH]
  refine .agg _ _ a (by simpa using hs) h1 fun i hi ae=>?_;simp only[iQ];exact ih i (by simpa using hi) ae
 |aU _ l a hs _ ih=>
  simp only[Δ.ν,fH]
  refine .aU _ _ a (by simpa using hs) fun i hi ae=>?_;simp only[iQ];exact ih i (by simpa using hi) ae
 |fn _ f f' l m' a b hs ht hy _ _ qC oR=>
  simp only[Δ.ν,fH]
  refine .fn _ f f' _ _ a b (by simpa using hs) (by simpa using ht) hy (fun i hi ae=>?_) (fun i hi ae=>?_)
  ·simp only[iQ];exact qC i (by simpa using hi) ae
  ·simp only[iQ];exact oR i (by simpa using hi) ae
 |eQ=>exact .eQ _
 |iface _ t v x _ ih=>exact .iface _ t _ x ih
 |gq=>exact .gq _
 |map _ id b h=>exact .map _ id b h
 |fQ=>exact .fQ _
theorem VR.cells{g:Gh}{lb:LB}{v:AV}{x:Value}(h:VR g lb v x)(hn:v.cells≠[]):
  x.cells.size=v.cells.length/\(∀i (hi:i<v.cells.length) (ae:i<x.cells.size),VR g lb v.cells[i] x.cells[i])/\(∀i (ae:i<x.cells.size),x.cells[i].oneCell'=true):=by
 cases h with
 |undef=>exact absurd rfl hn
 |aU _ l a hs hv=>exact absurd rfl hn
 |agg _ l a hs h1 hv=>exact⟨hs,fun i hi ae=>hv i hi ae,h1⟩
 |cR _ x h=>
  have hx:x.cells= #[x]:=by cases x<;>simp_all [Value.cells,Value.oneCell']
  refine⟨by simp[hx,AV.cells],fun i hi ae=>?_,fun i ae=>?_⟩
  ·have:i=0:=by simpa[AV.cells]using hi
   subst this;simp only[hx,AV.cells];exact .cR _ x h
  ·have:i=0:=by simpa[hx]using ae
   subst this;simpa[hx]using h
 |_=>
  refine⟨by simp[Value.cells,AV.cells],fun i hi ae=>?_,fun i ae=>?_⟩
  ·have:i=0:=by simpa[AV.cells]using hi
   subst this;simp only[Value.cells,AV.cells,kz,List.getElem_toArray];constructor<;>assumption
  ·have:i=0:=by simpa[Value.cells]using ae
   subst this;simp[Value.cells,Value.oneCell']
open Go.RowKit (Below)
inductive Own
 |m (id:Nat)
 |l (d:Nat)
abbrev OW:=Nat->Option Own
abbrev eS:=Nat->AC->Code->Prop
def qU(g:Gh)(lb:LB)(own:OW)(w:World)(nm:Own)(b:Nat)(l:List AV):Prop:=
 own b=some nm/\(∀o,g.im b o=none)/\∃(a:Array Value) (e:TypeId),w.heap[b]?=some (.cells a e (0,0))/\l.length<=a.size∧
  (∀i (h:i<l.length) (h':i<a.size),VR g lb l[i] a[i])/\∀i (h':i<a.size),a[i].oneCell'=true
def Pk:LS->Loop->Prop
 | .ready,L=>L.state= .ready/\L.pending.isNone
 | .busy,L=>L.state= .busy
 | .done none,L=>L.state= .done/\(match L.pending with|some .ret=>True|_=>False)
 | .done (some i),L=>L.state= .done/\(match L.pending with|some (.exit j)=>j=i|_=>False)
def tA(g:Gh)(own:OW)(LC:eS)(w:World)(id:Nat):θ->Prop
 | .cells l=>∃b,g.mb id=some b/\qU g bP own w (.m id) b l
 | .iter _ _=>False
 | .dead=>True
 | .ny T e s=>∃b,g.mb id=some b/\own b=some (.m id)/\(∀o,g.im b o=none)/\∃(p v:Value),w.heap[b]?=some (.cells #[p,v] T (0,0))∧
   (p= .pointer none\/p= .pointer (some ⟨b,0,none⟩))/\(∀x∈s,x<256)∧
   ((v= .slice none 0 0/\s=[])\/∃(r cap:Nat) (cur:Array Value),v= .slice (some ⟨r,0,none⟩) s.length cap/\own r=some (.m id)/\r≠b/\(∀o,g.im r o=none)/\s≠[]∧
    w.heap[r]?=some (.cells cur e (0,0))/\cur.size=cap/\s.length<=cap/\cap<=maxLen/\∀i (h:i<s.length),cur[i]?=some (.int .u8 s[i]))
 | .map es=>∃b,g.mb id=some b/\own b=some (.m id)/\(∀o,g.im b o=none)/\∃(a:Array MapEntry) (clock:Nat),w.heap[b]?=some (.map a clock)/\a.size=es.length∧
   (∀i (h:i<es.length) (h':i<a.size),VR g bP es[i].1 a[i].key/\VR g bP es[i].2 a[i].val)/\∀p∈es,plain p.1=true/\plain p.2=true
 | .front n sz e=>0<sz/\∃b cap,g.rows id n=some (b,cap)/\n<=cap/\own b=some (.m id)/\(∃a:Array Value,w.heap[b]?=some (.cells a e (0,0))/\a.size=cap*sz)∧
   (∀o,n*sz<=o->g.im b o=none)/\(∀m x,g.rows id m=some x->m<=n)/\g.mb id=none
 | .loop env ps fK body st=>∃b,g.mb id=some b/\own b=some (.m id)/\(∀o,g.im b o=none)/\∃(L:Loop) (N:Nat),w.heap[b]?=some (.loop L)∧
   (∀t,VR g bP (br env t) (L.tmps.getD t undef))/\L.params=ps.toArray/\N<=L.tmps.size/\(∀p∈ps,p<N)/\LC N fK L.assign/\LC N body L.body/\Pk st L∧
   ∀t,∃(g0:Gh) (x0:Value),(∀i b,g0.mb i=some b->i<id)/\(∀i m y,g0.rows i m=some y->i<id)/\VR g0 bP (br env t) x0
structure aZ (g:Gh) (own:OW) (LC:eS) (mem:Mem) (w:World):Prop where
 jq:∀id b,g.mb id=some b->id<mem.ε.length
 nj:∀t n x,g.rows t n=some x->t<mem.ε.length
 blk:∀id blk,mem.ε[id]?=some blk->tA g own LC w id blk
 im:∀b o x,g.im b o=some x->w.cell? ⟨b,o,none⟩=some x
structure cj (g:Gh) (lb:LB) (own:OW) (loc:Nat->Option (Nat×θ)) (w:World):Prop where
 cells:∀d v l,loc d=some (v,.cells l)->∃b,lb d v=some b/\qU g lb own w (.l d) b l
 iter:∀d v s pos,loc d=some (v,.iter s pos)->∃b,lb d v=some b/\own b=some (.l d)/\(∀o,g.im b o=none)∧
   ∃bs:ByteArray,w.heap[b]?=some (.stringIter bs pos)/\bs.data.toList.map UInt8.toNat=s
 vP:∀d v b,lb d v=some b->∃v' blk,loc d=some (v',blk)/\v<=v'
structure bO (base:Nat) (own:OW) (w:World):Prop where
 ge:∀b o,own b=some o->base<=b/\b<w.heap.size
 base:base<=w.heap.size
structure ep (g:Gh) (own:OW) (w:World) (g':Gh) (aD:OW) (w':World):Prop where
 sub:g.sub g'
 size:w.heap.size<=w'.heap.size
 os:w'.os=w.os
 tape:w'.tape=w.tape
 output:w'.output=w.output
 ba:∀b,b<w.heap.size->own b=none->w'.heap[b]?=w.heap[b]?
 jD:∀b,b<w.heap.size->own b=none->aD b=none
 im:∀b,b<w.heap.size->own b=none->∀o,g'.im b o=g.im b o
theorem ep.refl(g:Gh)(own:OW)(w:World):ep g own w g own w:=
 ⟨g.eM,b_ _,rfl,rfl,rfl,fun _ _ _=>rfl,fun _ _ h=>h,fun _ _ _ _=>rfl⟩
theorem ep.trans{g1 g2 g3:Gh}{o1 o2 o3:OW}{w1 w2 w3:World}(h:ep g1 o1 w1 g2 o2 w2)(k:ep g2 o2 w2 g3 o3 w3):ep g1 o1 w1 g3 o3 w3:= {
 sub:=Gh.BH h.sub k.sub
 size:=Nat.le_trans h.size k.size
 os:=k.os.trans h.os
 tape:=k.tape.trans h.tape
 output:=k.output.trans h.output
 ba b hb ho:=(k.ba b (kg hb h.size) (h.jD b hb ho)).trans (h.ba b hb ho)
 jD b hb ho:=k.jD b (kg hb h.size) (h.jD b hb ho)
 im b hb ho o:=(k.im b (kg hb h.size) (h.jD b hb ho) o).trans (h.im b hb ho o)}
theorem ep.below{base:Nat}{g g':Gh}{own aD:OW}{w w':World}(h:ep g own w g' aD w')(ho:bO base own w):Below base w w':=
 ⟨h.os,h.tape,h.output,h.size,fun k hk=>h.ba k (kg hk ho.base) (by
  cases hx:own k with
  |none=>rfl
  |some o=>have:=(ho.ge k o hx).1;omega)⟩
theorem p_{w w':World}{b o:Nat}(h:w'.heap[b]?=w.heap[b]?):w'.cell? ⟨b,o,none⟩=w.cell? ⟨b,o,none⟩:=by simp[sq,h]
theorem qU.ba{g g':Gh}{lb lb':LB}{own aD:OW}{w w':World}{nm:Own}{b:Nat}{l:List AV}(h:qU g lb own w nm b l)
  (hg:g.sub g') (hl:∀d i b,lb d i=some b->lb' d i=some b) (ho:aD b=own b) (hw:w'.heap[b]?=w.heap[b]?) (hi:∀o,g'.im b o=g.im b o):qU g' lb' aD w' nm b l:=by
 obtain⟨h1,h2,a,e,h3,h4,h5,h6⟩:=h;exact⟨ho.trans h1,fun o=>(hi o).trans (h2 o),a,e,hw.trans h3,h4,fun i hi ae=>(h5 i hi ae).mono hg hl,h6⟩
theorem tA.ba{g g':Gh}{own aD:OW}{LC:eS}{w w':World}{id:Nat}{blk:θ}(h:tA g own LC w id blk)(hg:g.sub g')
  (hb:∀b,own b=some (.m id)->aD b=own b/\w'.heap[b]?=w.heap[b]?/\∀o,g'.im b o=g.im b o)
  (hr:∀n,g.rows id n=none->g'.rows id n=none) (hm:g.mb id=none->g'.mb id=none):tA g' aD LC w' id blk:=by
 cases blk with
 |cells l=>
  obtain⟨b,h1,h2⟩:=h
  obtain⟨k1,k2,k3⟩:=hb b h2.1;exact⟨b,hg.2.1 _ _ h1,h2.ba hg (fun _ _ _ h=>h) k1 k2 k3⟩
 |iter s pos=>exact h
 |dead=>trivial
 |ny T e s=>
  obtain⟨b,h1,h2,h3,p,v,h4,h5,h6,h7⟩:=h
  obtain⟨k1,k2,k3⟩:=hb b h2;refine⟨b,hg.2.1 _ _ h1,k1.trans h2,fun o=>(k3 o).trans (h3 o),p,v,k2.trans h4,h5,h6,?_⟩;rcases h7 with h7|⟨r,cap,cur,q1,q2,q3,q4,q5,q6,q7⟩
  ·exact .inl h7
  ·obtain⟨l1,l2,l3⟩:=hb r q2;exact .inr ⟨r,cap,cur,q1,l1.trans q2,q3,fun o=>(l3 o).trans (q4 o),q5,l2.trans q6,q7⟩
 |map es=>
  obtain⟨b,h1,h2,h3,a,c,h4,h5,h6,h7⟩:=h
  obtain⟨k1,k2,k3⟩:=hb b h2;exact⟨b,hg.2.1 _ _ h1,k1.trans h2,fun o=>(k3 o).trans (h3 o),a,c,k2.trans h4,h5,fun i hi ae=>⟨(h6 i hi ae).1.sub hg,(h6 i hi ae).2.sub hg⟩,h7⟩
 |front n sz e=>
  obtain⟨h0,b,cap,h1,h2,h3,⟨a,h4,h5⟩,h6,h7,h8⟩:=h
  obtain⟨k1,k2,k3⟩:=hb b h3;refine⟨h0,b,cap,hg.2.2 _ _ _ h1,h2,k1.trans h3,⟨a,k2.trans h4,h5⟩,fun o ho=>(k3 o).trans (h6 o ho),fun m x hx=>?_,hm h8⟩;cases hy:g.rows id m with
  |none=>rw[hr m hy]at hx;cases hx
  |some y=>exact h7 m y hy
 |loop env ps fK body st=>
  obtain⟨b,h1,h2,h3,L,N,h4,h5,h6⟩:=h
  obtain⟨k1,k2,k3⟩:=hb b h2;exact⟨b,hg.2.1 _ _ h1,k1.trans h2,fun o=>(k3 o).trans (h3 o),L,N,k2.trans h4,fun t=>(h5 t).sub hg,h6⟩
theorem Wy{g:Gh}{lb:LB}{own:OW}{LC:eS}{loc:Nat->Option (Nat×θ)}{mem:Mem}{w:World}(hm:aZ g own LC mem w)(hl:cj g lb own loc w)
  {p:AV} {x:Value} {n:Nat} {cs:List AV} (hp:VR g lb p x) (hr:rd loc mem p n=some cs):
  ∃(b o:Nat) (vs:List Value),x= .pointer (some ⟨b,o,none⟩)/\vs.length=n/\cs.length=n/\w.rangeAt b o vs∧
   (∀i (h:i<cs.length) (h':i<vs.length),VR g lb cs[i] vs[i])/\∀v∈vs,v.oneCell'=true:=by
 have key:∀(b off:Nat) (l:List AV) (lb':LB) (nm:Own),qU g lb' own w nm b l->(∀d i b,lb' d i=some b->lb d i=some b)->off+n<=l.length->cs=(l.drop off).take n→
   ∃vs:List Value,vs.length=n/\cs.length=n/\w.rangeAt b off vs/\(∀i (h:i<cs.length) (h':i<vs.length),VR g lb cs[i] vs[i])/\∀v∈vs,v.oneCell'=true:=by
  rintro b off l lb' nm ⟨_,_,a,e,h3,h4,h5,h6⟩ qn hle rfl
  refine⟨(a.toList.drop off).take n,by simp;omega,by simp;omega,?_,?_,?_⟩
  ·intro j v hv;rw[BX]at hv;split at hv
   ·rw[aki]at hv;simpa[sq,h3]using hv
   ·cases hv
  ·intro i h h';simp only[BY,xF,ma];have hi:i<n:=by simp at h;omega
   exact(h5 (off+i) (by omega) (by omega)).mono g.eM qn
  ·intro v hv;have:=tE (qV hv);obtain⟨i,hi,rfl⟩:=o_.1 this;simpa using h6 i (by simpa using hi)
 cases p with
 |ak d v off=>
  cases hp with
  |ak _ _ _ _ b hb=>
  simp only[rd]at hr
  split at hr
  ·rename_i v' l hd;split at hr
   ·rename_i hc;obtain⟨rfl,hle⟩:=hc;obtain⟨b',aW,oH⟩:=hl.cells d _ l hd;rw[hb]at aW;cases aW;obtain⟨vs,k⟩:=key b off l lb (.l d) oH (fun _ _ _ h=>h) hle (by simpa using hr.symm);exact⟨b,off,vs,rfl,k⟩
   ·cases hr
  ·cases hr
 |κ id off=>
  cases hp with
  |κ _ _ _ b hb=>
  simp only[rd]at hr
  split at hr
  ·rename_i l hd;split at hr
   ·rename_i hle;obtain⟨b',aW,oH⟩:=hm.blk id _ hd;rw[hb]at aW;cases aW;obtain⟨vs,k⟩:=key b off l bP (.m id) oH (fun _ _ _ h=>by cases h) hle (by simpa using hr.symm);exact⟨b,off,vs,rfl,k⟩
   ·cases hr
  ·cases hr
 |ref l=>
  cases hp with
  |ref _ _ b o xs cx hv=>
  simp only[rd]at hr
  split at hr
  ·rename_i hle;simp only[a_]at hr;subst hr;refine⟨b,o,(qW n).map xs,rfl,by simp,by simp;omega,?_,?_,?_⟩
   ·intro j v mZ;simp only[od,bA]at mZ;obtain⟨i,hi,rfl⟩:=mZ;have hj:j<n:=by
     rcases di j n with h|h
     ·exact h
     ·rw[gW (by simpa using h)]at hi;cases hi
    rw[akj hj]at hi;cases hi;exact hm.im _ _ _ (cx j (by omega)).1
   ·intro i h h';simp only[BY,iQ,Jx];exact(hv i (by simp at h;omega)).mono g.eM fun _ _ _ h=>by cases h
   ·intro v mZ;obtain⟨i,hi,rfl⟩:=fb.1 mZ;exact(cx i (by have:=zT.1 hi;omega)).2
  ·cases hr
 |_=>simp[rd]at hr
def nk(loc:Nat->Option (Nat×θ)):kB->Nat->Option (Nat×θ)
 |none=>loc
 |some (d,v,b)=>fun d'=>if d=d' then some (v,b)else loc d'
theorem NO(loc:Loc)(u:kB):bR (eR loc u)=nk (bR loc) u:=by
 funext d';cases u with
 |none=>rfl
 |some x=>obtain⟨d,v,b⟩:=x;simp[eR,nk,iL]
def gX(base:Nat)(LC:eS)(g:Gh)(lb:LB)(own:OW)(loc:Nat->Option (Nat×θ))(w:World)(v:AV)(u:kB)(m':Mem)(x:Value)(w':World):Prop:=
 ∃(g':Gh) (lb':LB) (aD:OW),ep g own w g' aD w'/\(∀d i b,lb d i=some b->lb' d i=some b)/\VR g' lb' v x/\aZ g' aD LC m' w'∧
  cj g' lb' aD (nk loc u) w'/\bO base aD w'
section
variable{base:Nat}{LC:eS}{g g':Gh}{lb lb':LB}{own aD:OW}{loc:Nat->Option (Nat×θ)}{mem:Mem}{w w':World}
theorem gX.pure{v:AV}{x:Value}(hm:aZ g own LC mem w)(hl:cj g lb own loc w)(ho:bO base own w)(h:VR g lb v x):gX base LC g lb own loc w v none mem x w:=
 ⟨g,lb,own,.refl g own w,fun _ _ _ h=>h,h,hm,hl,ho⟩
theorem aZ.ba(h:aZ g own LC mem w)(hg:g.sub g')(C7:∀id,g.mb id=none->g'.mb id=none)(nQ:∀t n,g.rows t n=none->g'.rows t n=none)
  (hb:∀id b,own b=some (.m id)->aD b=own b/\w'.heap[b]?=w.heap[b]?/\∀o,g'.im b o=g.im b o)
  (cx:∀b o x,g'.im b o=some x->w'.cell? ⟨b,o,none⟩=some x):aZ g' aD LC mem w':= {
 jq id b aW:=by
  cases hx:g.mb id with
  |none=>rw[C7 id hx]at aW;cases aW
  |some c=>exact h.jq id c hx
 nj t n x hx:=by
  cases hy:g.rows t n with
  |none=>rw[nQ t n hy]at hx;cases hx
  |some y=>exact h.nj t n y hy
 blk id blk hid:=(h.blk id blk hid).ba hg (hb id) (nQ id) (C7 id)
 im:=cx}
theorem cj.ba(h:cj g lb own loc w)(hg:g.sub g')
  (hb:∀d b,own b=some (.l d)->aD b=own b/\w'.heap[b]?=w.heap[b]?/\∀o,g'.im b o=g.im b o):cj g' lb aD loc w':= {
 cells d v l hd:=by obtain⟨b,h1,h2⟩:=h.cells d v l hd;obtain⟨k1,k2,k3⟩:=hb d b h2.1;exact⟨b,h1,h2.ba hg (fun _ _ _ h=>h) k1 k2 k3⟩
 iter d v s pos hd:=by obtain⟨b,h1,h2,h3,bs,h4,h5⟩:=h.iter d v s pos hd;obtain⟨k1,k2,k3⟩:=hb d b h2;exact⟨b,h1,k1.trans h2,fun o=>(k3 o).trans (h3 o),bs,k2.trans h4,h5⟩
 vP:=h.vP}
theorem tU(w:World)(o:Obj){b:Nat}(h:b<w.heap.size):(w.alloc o).heap[b]?=w.heap[b]?:=Go.RowKit.Below.heap_alloc w o b h
theorem qi(w:World)(o:Obj):(w.alloc o).heap[w.heap.size]?=some o:=by show(w.heap.push o)[w.heap.size]?=_;simp
theorem wb{w:World}{b o:Nat}{x:Value}(h:w.cell? ⟨b,o,none⟩=some x):b<w.heap.size:=by
 unfold sq at h;split at h
 ·rename_i heq;exact(zO.1 heq).1
 ·cases h
theorem gX.drew{v:AV}{u:kB}{m':Mem}{x:Value}(h:gX base LC g lb own loc w.drew v u m' x w'):gX base LC g lb own loc w v u m' x w':=by obtain⟨g',lb',aD,hs,r⟩:=h;exact⟨g',lb',aD,⟨hs.sub,hs.size,hs.os,hs.tape,hs.output,hs.ba,hs.jD,hs.im⟩,r⟩
theorem aZ.drew(h:aZ g own LC mem w):aZ g own LC mem w.drew:=
 h.ba g.eM (fun _ h=>h) (fun _ _ h=>h) (fun _ _ _=>⟨rfl,rfl,fun _=>rfl⟩) h.im
theorem cj.drew(h:cj g lb own loc w):cj g lb own loc w.drew:=h.ba g.eM fun _ _ _=>⟨rfl,rfl,fun _=>rfl⟩
theorem bO.drew(h:bO base own w):bO base own w.drew:=⟨h.ge,h.base⟩
def gL(own:OW)(b:Nat)(o:Option Own):OW:=fun b'=>if b'=b then o else own b'
theorem zp(ho:bO base own w){b:Nat}{o:Own}(h:own b=some o):b≠w.heap.size:=by have:=(ho.ge b o h).2;omega
theorem aZ.alloc(h:aZ g own LC mem w)(ho:bO base own w)(o:Obj)(nm:Option Own):aZ g (gL own w.heap.size nm) LC mem (w.alloc o):=
 h.ba g.eM (fun _ h=>h) (fun _ _ h=>h)
  (fun id b hb=>⟨by simp[gL,zp ho hb],tU w o (ho.ge b _ hb).2,fun _=>rfl⟩)
  (fun b o' x hx=>by
   have hc:=h.im b o' x hx
   rw[p_ (tU w o (wb hc))];exact hc)
theorem cj.alloc(h:cj g lb own loc w)(ho:bO base own w)(o:Obj)(nm:Option Own):cj g lb (gL own w.heap.size nm) loc (w.alloc o):=
 h.ba g.eM (fun d b hb=>⟨by simp[gL,zp ho hb],tU w o (ho.ge b _ hb).2,fun _=>rfl⟩)
theorem ep.alloc(g:Gh)(own:OW)(w:World)(o:Obj)(nm:Option Own):ep g own w g (gL own w.heap.size nm) (w.alloc o):= {
 sub:=g.eM
 size:=by simp
 os:=rfl
 tape:=rfl
 output:=rfl
 ba b hb _:=tU w o hb
 jD b hb h:=by simp only[gL];rw[if_neg (by omega)];exact h
 im _ _ _ _:=rfl}
theorem bO.alloc(h:bO base own w)(o:Obj)(nm:Option Own):bO base (gL own w.heap.size nm) (w.alloc o):= {
 ge b o' hb:=by
  simp only[gL]at hb;split at hb
  ·rename_i ko;subst ko;exact⟨h.base,by simp⟩
  ·have:=h.ge b o' hb;exact⟨this.1,by simp;omega⟩
 base:=by have:=h.base;simp;omega}
theorem w9(h:aZ g own LC mem w)(o:Nat):g.im w.heap.size o=none:=by
 cases hx:g.im w.heap.size o with
 |none=>rfl
 |some x=>have:=wb (h.im _ _ _ hx);omega
def s8(lb:LB)(d v b:Nat):LB:=fun d' v'=>if d'=d/\v'=v then some b else lb d' v'
theorem VJ(h:cj g lb own loc w){d v b:Nat}(hb:lb d v=some b):v<bJ loc d:=by obtain⟨v',blk,h1,h2⟩:=h.vP d v b hb;simp only[bJ,h1];omega
theorem Ig(h:cj g lb own loc w)(d b:Nat):∀d' i b',lb d' i=some b'->s8 lb d (bJ loc d) b d' i=some b':=by
 intro d' i b' hb;simp only[s8];rw[if_neg]
 ·exact hb
 ·rintro⟨rfl,rfl⟩
  exact akk _ (VJ h hb)
theorem cj.new(h:cj g lb own loc w)(ho:bO base own w)(d:Nat)(o:Obj)(blk:θ)
  (hc:∀l,blk= .cells l->qU g (s8 lb d (bJ loc d) w.heap.size) (gL own w.heap.size (some (.l d))) (w.alloc o) (.l d) w.heap.size l)
  (hi:∀s pos,blk= .iter s pos->(∀o,g.im w.heap.size o=none)/\∃bs:ByteArray,o= .stringIter bs pos/\bs.data.toList.map UInt8.toNat=s):
  cj g (s8 lb d (bJ loc d) w.heap.size) (gL own w.heap.size (some (.l d))) (nk loc (some (d,bJ loc d,blk))) (w.alloc o):=by
 have h':=h.alloc ho o (some (.l d));have hs:=Ig h d w.heap.size;refine⟨fun d' v l hd=>?_,fun d' v s pos hd=>?_,fun d' v b hb=>?_⟩
 ·simp only[nk]at hd;split at hd
  ·rename_i g_;subst g_;cases hd;exact⟨w.heap.size,by simp[s8],hc l rfl⟩
  ·obtain⟨b,h1,h2⟩:=h'.cells d' v l hd;exact⟨b,hs _ _ _ h1,h2.ba g.eM hs rfl rfl fun _=>rfl⟩
 ·simp only[nk]at hd;split at hd
  ·rename_i g_;subst g_;cases hd;obtain⟨k1,bs,rfl,k2⟩:=hi s pos rfl;exact⟨w.heap.size,by simp[s8],by simp[gL],k1,bs,qi w _,k2⟩
  ·obtain⟨b,h1,r⟩:=h'.iter d' v s pos hd;exact⟨b,hs _ _ _ h1,r⟩
 ·simp only[s8]at hb;split at hb
  ·rename_i g_;obtain⟨rfl,rfl⟩:=g_;exact⟨_,blk,by simp[nk],b_ _⟩
  ·by_cases g_:d=d'
   ·subst g_;exact⟨_,blk,by simp[nk],zV (VJ h hb)⟩
   ·obtain⟨v',JQ,h1,h2⟩:=h.vP d' v b hb;exact⟨v',JQ,by simp[nk,g_,h1],h2⟩
theorem aZ.push{o':OW}(h:aZ g own LC mem w)(hk:aZ g o' LC mem w')(blk:θ)(mJ:Nat->Option Nat)
  (jt:∀id b,mJ id=some b->g.mb id=some b\/id=mem.ε.length) (Ub:∀id,id<mem.ε.length->mJ id=g.mb id)
  (sR:tA {g with mb:=mJ} o' LC w' mem.ε.length blk):aZ {g with mb:=mJ} o' LC (mem.push blk) w':=by
 have c_:g.sub {g with mb:=mJ}:=⟨fun _ _ _ h=>h,fun id b hb=>by rw[<-hb];exact Ub id (h.jq id b hb),fun _ _ _ h=>h⟩;refine⟨fun id b hb=>?_,fun t n x hx=>?_,fun id JQ hid=>?_,hk.im⟩
 ·simp only[Mem.push,cX,cN,eT];rcases jt id b hb with aW|rfl
  ·have:=h.jq id b aW;omega
  ·omega
 ·have:=h.nj t n x hx;simp only[Mem.push,cX,cN,eT];omega
 ·simp only[Mem.push]at hid;rcases di id mem.ε.length with ψ|eH
  ·rw[d_ ψ]at hid;exact(hk.blk id JQ hid).ba c_ (fun _ _=>⟨rfl,rfl,fun _=>rfl⟩) (fun _ h=>h) (fun hn=>by show mJ id=none;rw[Ub id ψ];exact hn)
  ·rw[uM eH]at hid;have:id=mem.ε.length:=by
    rcases di 0 (id-mem.ε.length)with h0|h0
    ·rw[gW (by simp;omega)]at hid;cases hid
    ·omega
   subst this;simp at hid;subst hid;exact sR
theorem Is{v:AV}{x:Value}(_h:aZ g own LC mem w)(hv:VR g lb v x):VR g bP (mem.ν v) x:=VR.ν hv
theorem afl(hm:aZ g own LC mem w)(hl:cj g lb own loc w)(ho:bO base own w){T e:TypeId}:
  gX base LC g lb own loc w (.κ mem.ε.length 0) none (mem.push (.ny T e [])) (.pointer (some ⟨w.heap.size,0,none⟩)) (w.alloc (.cells #[.pointer none,.slice none 0 0] T)):=by
 have cx:∀o,g.im w.heap.size o=none:=w9 hm;let g':Gh:= {g with mb:=fun id=>if id=mem.ε.length then some w.heap.size else g.mb id};have c_:g.sub g':=⟨fun _ _ _ h=>h,fun id b hb=>by
  have:=hm.jq id b hb
  simp only[g'];rw[if_neg (by omega)];exact hb,fun _ _ _ h=>h⟩
 have Ω:=ep.alloc g own w (.cells #[.pointer none,.slice none 0 0] T) (some (.m mem.ε.length));refine⟨g',lb,_,⟨c_,Ω.size,Ω.os,Ω.tape,Ω.output,Ω.ba,Ω.jD,Ω.im⟩,fun _ _ _ h=>h,.κ _ _ _ _ (by simp[g']),?_,?_,ho.alloc _ _⟩
 ·refine hm.push (hm.alloc ho _ _) _ _ (fun id b hb=>?_) (fun id hid=>?_) ?_
  ·split at hb
   ·exact .inr (by assumption)
   ·exact .inl hb
  ·exact if_neg (by omega)
  ·exact⟨w.heap.size,by simp,by simp[gL],cx,_,_,qi w _,.inl rfl,fun x hx=>(by cases hx),.inl ⟨rfl,rfl⟩⟩
 ·exact(hl.alloc ho _ _).ba c_ fun _ _ _=>⟨rfl,rfl,fun _=>rfl⟩
theorem VI(hm:aZ g own LC mem w)(hl:cj g lb own loc w)(ho:bO base own w){oD:Bool}{dst:Option Nat}{l:List AV}{cs:Array Value}{e:TypeId}
  (hs:l.length<=cs.size) (hv:∀i (h:i<l.length) (h':i<cs.size),VR g lb l[i] cs[i]) (h1:∀i (h':i<cs.size),cs[i].oneCell'=true)
  {v:AV} {u:kB} {m':Mem} (hr:newVar loc mem oD dst l=some (v,u,m')):
  gX base LC g lb own loc w v u m' (.pointer (some ⟨w.heap.size,0,none⟩)) (w.alloc (.cells cs e)):=by
 have cx:∀o,g.im w.heap.size o=none:=w9 hm;unfold newVar at hr;split at hr
 ·simp only[a_,az]at hr;obtain⟨rfl,rfl,rfl⟩:=hr;let g':Gh:= {g with mb:=fun id=>if id=mem.ε.length then some w.heap.size else g.mb id};have c_:g.sub g':=⟨fun _ _ _ h=>h,fun id b hb=>by
   have:=hm.jq id b hb
   simp only[g'];rw[if_neg (by omega)];exact hb,fun _ _ _ h=>h⟩
  have Ω:=ep.alloc g own w (.cells cs e) (some (.m mem.ε.length));refine⟨g',lb,_,⟨c_,Ω.size,Ω.os,Ω.tape,Ω.output,Ω.ba,Ω.jD,Ω.im⟩,fun _ _ _ h=>h,.κ _ _ _ _ (by simp[g']),?_,?_,ho.alloc _ _⟩
  ·refine hm.push (hm.alloc ho _ _) _ _ (fun id b hb=>?_) (fun id hid=>?_) ?_
   ·split at hb
    ·exact .inr (by assumption)
    ·exact .inl hb
   ·exact if_neg (by omega)
   ·refine⟨w.heap.size,by simp,by simp[gL],cx,cs,e,qi w _,by simpa using hs,fun i hi ae=>?_,h1⟩;simp only[iQ];exact(Is hm (hv i (by simpa using hi) ae)).sub c_
  ·exact(hl.alloc ho _ _).ba c_ fun _ _ _=>⟨rfl,rfl,fun _=>rfl⟩
 ·split at hr
  ·rename_i d;simp only[a_,az]at hr;obtain⟨rfl,rfl,rfl⟩:=hr;refine⟨g,s8 lb d (bJ loc d) w.heap.size,_,.alloc g own w _ (some (.l d)),Ig hl d _,.ak _ _ _ _ _ (by simp[s8]),hm.alloc ho _ _,?_,ho.alloc _ _⟩;refine hl.new ho d _ _ (fun l' fO=>?_) (fun s pos h=>by cases h);cases fO;exact⟨by simp[gL],cx,cs,e,qi w _,hs,fun i hi ae=>(hv i hi ae).mono g.eM (Ig hl d _),h1⟩
  ·cases hr
theorem Od(hm:aZ g own LC mem w)(hl:cj g lb own loc w)(ho:bO base own w){oD:Bool}{dst:Option Nat}{l:List AV}{cs:Array Value}{e:TypeId}
  (hs:cs.size=l.length) (hv:∀i (h:i<l.length) (h':i<cs.size),VR g lb l[i] cs[i]) (h1:∀i (h':i<cs.size),cs[i].oneCell'=true)
  {v:AV} {u:kB} {m':Mem} (hr:newVar loc mem oD dst l=some (v,u,m')):
  gX base LC g lb own loc w v u m' (.pointer (some ⟨w.heap.size,0,none⟩)) (w.alloc (.cells cs e)):=VI hm hl ho (by omega) hv h1 hr
end
def PW{α β:Type}(R:α->β->Prop)(l:List α)(m:List β):Prop:=l.length=m.length/\∀i (h:i<l.length) (h':i<m.length),R l[i] m[i]
section
variable{α β:Type}{R:α->β->Prop}
theorem PW.append{l l':List α}{m m':List β}(h:PW R l m)(h':PW R l' m'):PW R (l++l') (m++m'):=by
 refine⟨by simp[h.1,h'.1],fun i hi ae=>?_⟩;rcases di i l.length with ψ|eH
 ·rw[xD ψ,xD (by have:=h.1;omega)];exact h.2 i ψ _
 ·rw[xE eH,xE (by have:=h.1;omega)];have he:i-m.length=i-l.length:=by rw[h.1]
  have:=h'.2 (i-l.length) (by simp at hi;omega) (by simp at ae;have:=h.1;omega);simpa[h.1]using this
theorem PW.take{l:List α}{m:List β}(h:PW R l m)(n:Nat):PW R (l.take n) (m.take n):=by refine⟨by simp[h.1],fun i hi ae=>?_⟩;simp only[BY];exact h.2 i _ _
theorem PW.drop{l:List α}{m:List β}(h:PW R l m)(n:Nat):PW R (l.drop n) (m.drop n):=by refine⟨by simp[h.1],fun i hi ae=>?_⟩;simp only[xF];exact h.2 _ _ _
theorem PW.mono{R':α->β->Prop}{l:List α}{m:List β}(h:PW R l m)(hr:∀a b,R a b->R' a b):PW R' l m:=⟨h.1,fun i hi ae=>hr _ _ (h.2 i hi ae)⟩
theorem PW.map{γ:Type}{R':γ->β->Prop}{l:List α}{m:List β}(f:α->γ)(h:PW R l m)(hr:∀a b,R a b->R' (f a) b):PW R' (l.map f) m:=
 ⟨by simp[h.1],fun i hi ae=>by simp only[iQ];exact hr _ _ (h.2 i (by simpa using hi) ae)⟩
theorem PW.nil:PW R ([]:List α) ([]:List β):=⟨rfl,fun i h=>by simp at h⟩
theorem PW.cons{a:α}{b:β}{l:List α}{m:List β}(h:R a b)(hl:PW R l m):PW R (a::l) (b::m):=by
 refine⟨by simp[hl.1],fun i hi ae=>?_⟩;cases i with
 |zero=>exact h
 |succ i=>exact hl.2 i (by simpa using hi) (by simpa using ae)
end
section
variable{base:Nat}{LC:eS}{g g':Gh}{lb lb':LB}{own aD:OW}{loc:Nat->Option (Nat×θ)}{mem:Mem}{w w':World}
def arr(cur:Array Value)(off:Nat)(vs:List Value):Array Value:=(cur.toList.take off++vs++cur.toList.drop (off+vs.length)).toArray
theorem qU.pw{nm:Own}{b:Nat}{l:List AV}(h:qU g lb own w nm b l):∃a e,w.heap[b]?=some (.cells a e (0,0))/\PW (VR g lb) l (a.toList.take l.length)/\l.length<=a.size/\∀v∈a.toList,v.oneCell'=true:=by obtain⟨_,_,a,e,h3,h4,h5,h6⟩:=h;refine⟨a,e,h3,⟨by simp;omega,fun i hi ae=>by simpa using h5 i hi (by omega)⟩,h4,fun v hv=>?_⟩;obtain⟨i,hi,rfl⟩:=o_.1 hv;simpa using h6 i (by simpa using hi)
theorem X4{α:Type}(x vs:List α){off n:Nat}(h:off+vs.length<=n)(hn:n<=x.length):(x.take off++vs++x.drop (off+vs.length)).take n=(x.take n).take off++vs++(x.take n).drop (off+vs.length):=by
 rw[List.take_take,BU,Nat.min_eq_left (by omega)];have h1:(x.take off++vs).length=off+vs.length:=by simp;omega
 rw[List.take_append,h1,fe (by omega)]
theorem qU.store{nm:Own}{b:Nat}{l:List AV}(h:qU g lb own w nm b l){off:Nat}{cs:List AV}{vs:List Value}(cI:PW (VR g lb) cs vs)(h1:∀v∈vs,v.oneCell'=true)
  (hle:off+cs.length<=l.length):
  ∃a e,w.heap[b]?=some (.cells a e (0,0))/\off+vs.length<=a.size/\qU g lb own (w.setRow b (arr a off vs)) nm b (dk l off cs):=by
 obtain⟨a,e,ha,hp,hl,ho⟩:=h.pw;have hc:=cI.1;have A8:PW (VR g lb) (dk l off cs) ((a.toList.take off++vs++a.toList.drop (off+vs.length)).take l.length):=by rw[X4 _ _ (by omega) (by simpa using hl)];unfold dk;rw[hc];exact((hp.take off).append cI).append (hp.drop _)
 have jW:(dk l off cs).length=l.length:=by simp[dk];omega
 refine⟨a,e,ha,by omega,h.1,h.2.1,arr a off vs,e,setRow_heap w b a _ e _ ha,?_,?_,?_⟩
 ·rw[jW];simp[arr];omega
 ·intro i hi ae;have:=A8.2 i hi (by rw[List.length_take];simp[arr]at ae⊢;omega);simpa[arr]using this
 ·intro i hi;have hm:(arr a off vs)[i]∈(a.toList.take off++vs++a.toList.drop (off+vs.length)):=by simp[arr]
  rcases dQ.1 hm with hm|hm
  ·rcases dQ.1 hm with hm|hm
   ·exact ho _ (qV hm)
   ·exact h1 _ hm
  ·exact ho _ (tE hm)
theorem aZ.setRow_other(h:aZ g own LC mem w){b:Nat}(a:Array Value)(hb:∀id,own b≠some (.m id))(cx:∀o,g.im b o=none):aZ g own LC mem (w.setRow b a):=by
 refine h.ba g.eM (fun _ h=>h) (fun _ _ h=>h) (fun id b' aW=>⟨rfl,Go.setRow_other w b b' a ?_,fun _=>rfl⟩) (fun b' o x hx=>?_)
 ·rintro rfl;exact hb id aW
 ·have φ:b'≠b:=by rintro rfl;rw[cx]at hx;cases hx
  rw[p_ (Go.setRow_other w b b' a φ)];exact h.im _ _ _ hx
theorem cj.setRow_other(h:cj g lb own loc w){b:Nat}(a:Array Value)(hb:∀d,own b≠some (.l d)):cj g lb own loc (w.setRow b a):=
 h.ba g.eM fun d b' aW=>⟨rfl,Go.setRow_other w b b' a (by rintro rfl;exact hb d aW),fun _=>rfl⟩
theorem ep.setRow(g:Gh){own:OW}(w:World){b:Nat}(a:Array Value){o:Own}(hb:own b=some o):ep g own w g own (w.setRow b a):= {
 sub:=g.eM
 size:=by simp
 os:=rfl
 tape:=rfl
 output:=rfl
 ba b' _ ho:=Go.setRow_other w b b' a (by rintro rfl;rw[hb]at ho;cases ho)
 jD _ _ h:=h
 im _ _ _ _:=rfl}
theorem bO.setRow(h:bO base own w)(b:Nat)(a:Array Value):bO base own (w.setRow b a):=⟨fun b' o hb=>by simpa using h.ge b' o hb,by simpa using h.base⟩
theorem aZ.EJ(h:aZ g own LC mem w){yW:Nat}{E8:θ}{t:List Nat}(h0:yW<mem.ε.length)(hg:g.sub g')(C7:∀id,g.mb id=none->g'.mb id=none)
  (nQ:∀t n,t≠yW->g.rows t n=none->g'.rows t n=none)
  (hb:∀id b,id≠yW->own b=some (.m id)->aD b=own b/\w'.heap[b]?=w.heap[b]?/\∀o,g'.im b o=g.im b o)
  (sR:tA g' aD LC w' yW E8) (cx:∀b o x,g'.im b o=some x->w'.cell? ⟨b,o,none⟩=some x):
  aZ g' aD LC {ε:=mem.ε.set yW E8,η:=t} w':= {
 jq id b aW:=by
  simp only[mN];cases hx:g.mb id with
  |none=>rw[C7 id hx]at aW;cases aW
  |some c=>exact h.jq id c hx
 nj t n x hx:=by
  simp only[mN];by_cases ht:t=yW
  ·subst ht;exact h0
  ·cases hy:g.rows t n with
   |none=>rw[nQ t n ht hy]at hx;cases hx
   |some y=>exact h.nj t n y hy
 blk id blk hid:=by
  simp only[List.getElem?_set]at hid;by_cases hi:yW=id
  ·subst hi;rw[if_pos rfl,if_pos h0]at hid;cases hid;exact sR
  ·rw[if_neg hi]at hid;exact(h.blk id blk hid).ba hg (fun b=>hb id b (Ne.symm hi)) (fun n=>nQ id n (Ne.symm hi)) (C7 id)
 im:=cx}
theorem Pd(hm:aZ g own LC mem w)(hl:cj g lb own loc w)(ho:bO base own w){p:AV}{x:Value}{cs:List AV}{vs:List Value}(hp:VR g lb p x)
  (cI:PW (VR g lb) cs vs) (h1:∀v∈vs,v.oneCell'=true) {u:kB} {m':Mem} (hr:wr loc mem p cs=some (u,m')):
  ∃(b off:Nat) (a:Array Value) (e:TypeId),x= .pointer (some ⟨b,off,none⟩)/\w.heap[b]?=some (.cells a e (0,0))/\off+vs.length<=a.size∧
   gX base LC g lb own loc w .undef u m' undef (w.setRow b (arr a off vs)):=by
 cases p with
 |ak d v off=>
  cases hp with
  |ak _ _ _ _ b hb=>
  simp only[wr]at hr
  split at hr
  ·rename_i v' l hd;split at hr
   ·rename_i hc;obtain⟨rfl,hle⟩:=hc;simp only[a_,az]at hr;obtain⟨rfl,rfl⟩:=hr;obtain⟨b',aW,oH⟩:=hl.cells d _ l hd;rw[hb]at aW;cases aW;obtain⟨a,e,ha,aO,sR⟩:=oH.store cI h1 hle;have dm:=oH.1;refine⟨b,off,a,e,rfl,ha,aO,g,lb,own,.setRow g w _ dm,fun _ _ _ h=>h,.undef _,hm.setRow_other _ (fun id=>by rw[dm];simp) oH.2.1,?_,ho.setRow _ _⟩;refine⟨fun d' i l' kp=>?_,fun d' i s pos kp=>?_,fun d' i b' aW=>?_⟩
    ·simp only[nk]at kp;split at kp
     ·rename_i g_;subst g_;cases kp;exact⟨b,hb,sR⟩
     ·rename_i g_;obtain⟨b2,k1,k2⟩:=hl.cells d' i l' kp;have φ:b2≠b:=by rintro rfl;have:=k2.1;rw[dm]at this;cases this;exact g_ rfl
      exact⟨b2,k1,k2.ba g.eM (fun _ _ _ h=>h) rfl (Go.setRow_other w b b2 _ φ) fun _=>rfl⟩
    ·simp only[nk]at kp;split at kp
     ·cases kp
     ·rename_i g_;obtain⟨b2,k1,k2,k3,bs,k4,k5⟩:=hl.iter d' i s pos kp;have φ:b2≠b:=by rintro rfl;rw[dm]at k2;cases k2;exact g_ rfl
      exact⟨b2,k1,k2,k3,bs,(Go.setRow_other w b b2 _ φ).trans k4,k5⟩
    ·obtain⟨v2,JR,k1,k2⟩:=hl.vP d' i b' aW;by_cases g_:d=d'
     ·subst g_;rw[hd]at k1;cases k1;exact⟨_,.cells (dk l off cs),by simp[nk],k2⟩
     ·exact⟨v2,JR,by simp[nk,g_,k1],k2⟩
   ·cases hr
  ·cases hr
 |κ id off=>
  cases hp with
  |κ _ _ _ b hb=>
  simp only[wr]at hr
  split at hr
  ·rename_i l hd;split at hr
   ·rename_i hle;simp only[a_,az]at hr;obtain⟨rfl,rfl⟩:=hr;obtain⟨b',aW,oH⟩:=hm.blk id _ hd;rw[hb]at aW;cases aW;have abV:PW (VR g bP) (cs.map mem.ν) vs:=cI.map _ fun _ _ h=>Is hm h;obtain⟨a,e,ha,aO,sR⟩:=oH.store abV h1 (by simpa using hle);have dm:=oH.1;refine⟨b,off,a,e,rfl,ha,aO,g,lb,own,.setRow g w _ dm,fun _ _ _ h=>h,.undef _,?_,hl.setRow_other _ (fun d=>by rw[dm];simp),ho.setRow _ _⟩;have hid:id<mem.ε.length:=hm.jq id b hb;refine hm.EJ hid g.eM (fun _ h=>h) (fun _ _ _ h=>h) (fun mF b' φ aW=>⟨rfl,Go.setRow_other w b b' _ ?_,fun _=>rfl⟩) ⟨b,hb,sR⟩ (fun b' o x hx=>?_)
    ·rintro rfl;rw[dm]at aW;cases aW;exact φ rfl
    ·have φ:b'≠b:=by rintro rfl;rw[oH.2.1]at hx;cases hx
     rw[p_ (Go.setRow_other w b b' _ φ)];exact hm.im _ _ _ hx
   ·cases hr
  ·cases hr
 |_=>simp[wr]at hr
end
def FR(g:Gh)(lb:LB)(sz:Nat)(l:List AV)(vs:List Value):Prop:=
 vs.length=l.length*sz/\(∀e∈l,e.cells.length=sz)/\(∀v∈vs,v.oneCell'=true)∧
  ∀i (h:i<l.length) j (hj:j<l[i].cells.length) (h':i*sz+j<vs.length),VR g lb l[i].cells[j] vs[i*sz+j]
theorem DQ{i j n sz:Nat}(hi:i<n)(hj:j<sz):i*sz+j<n*sz:=by have h1:(i+1)*sz<=n*sz:=nu _ hi;rw[kA]at h1;omega
section
variable{base:Nat}{LC:eS}{g g':Gh}{lb lb':LB}{own aD:OW}{loc:Nat->Option (Nat×θ)}{mem:Mem}{w w':World}
theorem FR.nil(sz:Nat):FR g lb sz [] []:=⟨by simp,by simp,by simp,by simp⟩
theorem FR.append{sz:Nat}{l m:List AV}{vs us:List Value}(h:FR g lb sz l vs)(k:FR g lb sz m us):FR g lb sz (l++m) (vs++us):=by
 refine⟨by simp[h.1,k.1,kA],fun e he=>?_,fun v hv=>?_,fun i hi j hj oL=>?_⟩
 ·rcases dQ.1 he with he|he
  ·exact h.2.1 e he
  ·exact k.2.1 e he
 ·rcases dQ.1 hv with hv|hv
  ·exact h.2.2.1 v hv
  ·exact k.2.2.1 v hv
 ·rcases di i l.length with ψ|eH
  ·have e1:(l++m)[i]=l[i]:=xD ψ;have dI:j<l[i].cells.length:=by rw[<-e1];exact hj
   have aO:l[i].cells.length=sz:=h.2.1 _ (db ψ);have eZ:i*sz+j<vs.length:=by rw[h.1];exact DQ ψ (by omega)
   rw[xD eZ];have:=h.2.2.2 i ψ j dI eZ;simpa only[e1]using this
  ·have e1:(l++m)[i]=m[i-l.length]'(by simp at hi;omega):=xE eH;have dI:j<(m[i-l.length]'(by simp at hi;omega)).cells.length:=by rw[<-e1];exact hj
   have hmul:i*sz=l.length*sz+(i-l.length)*sz:=by rw[<-kA];congr 1;omega
   have Db:vs.length<=i*sz+j:=by rw[h.1,hmul];omega
   have Mh:i*sz+j-vs.length=(i-l.length)*sz+j:=by rw[h.1,hmul];omega
   have eZ:(i-l.length)*sz+j<us.length:=by
    have:i*sz+j<vs.length+us.length:=by simpa using oL
    omega
   rw[xE Db];have:=k.2.2.2 (i-l.length) (by simp at hi;omega) j dI eZ;simp only[Mh,e1];exact this
theorem FR.mono{sz:Nat}{l:List AV}{vs:List Value}(h:FR g lb sz l vs)(hg:g.sub g')(hl:∀d i b,lb d i=some b->lb' d i=some b):FR g' lb' sz l vs:=
 ⟨h.1,h.2.1,h.2.2.1,fun i hi j hj oL=>(h.2.2.2 i hi j hj oL).mono hg hl⟩
theorem FR.ν{sz:Nat}{l:List AV}{vs:List Value}(hm:aZ g own LC mem w)(h:FR g lb sz l vs):FR g bP sz (l.map mem.ν) vs:=by
 have hc:∀v:AV,(mem.ν v).cells=v.cells.map mem.ν:=fun v=>Fm v;refine⟨by simp[h.1],fun e he=>?_,h.2.2.1,fun i hi j hj oL=>?_⟩
 ·obtain⟨e',sN,rfl⟩:=fb.1 he;rw[hc,cz];exact h.2.1 e' sN
 ·have ae:i<l.length:=by simpa using hi
  have dI:j<l[i].cells.length:=by simpa[hc]using hj
  have:=Is hm (h.2.2.2 i ae j dI oL);simpa[hc]using this
theorem VR.flat{c:τ}{l:List AV}{x:Value}{sz:Nat}(h:VR g lb (.list c l) x)(aO:∀e∈l,e.cells.length=sz)(φ:l≠[]):
  ∃(b o cap:Nat) (vs:List Value),x= .slice (some ⟨b,o,none⟩) l.length cap/\l.length<=cap/\mP g l.length b o cap c/\FR g bP sz l vs∧
   ∀q v,vs[q]?=some v->g.im b (o+q)=some v:=by
 cases h with
 |iM=>exact absurd rfl φ
 |h_=>exact absurd rfl φ
 |list _ _ _ b o eN n cap xs hn dN hc DF cx hv=>
  subst hn
  have hs:eN=sz:=by
   cases l with
   |nil=>exact absurd rfl φ
   |cons e l=>rw[<-DF e (by simp),aO e (by simp)]
  subst hs;have jL:∀q,q<l.length*eN->0<eN:=fun q hq=>by
   rcases Nat.eq_zero_or_pos eN with h|h
   ·rw[h]at hq;simp at hq
   ·exact h
  have hdiv:∀q,q<l.length*eN->q/eN<l.length/\q % eN<eN/\q/eN*eN+q % eN=q:=fun q hq=>⟨Nat.div_lt_of_lt_mul (by rw[akl];exact hq),Nat.mod_lt _ (jL q hq),by rw[akl];exact Nat.div_add_mod q eN⟩;refine⟨b,o,cap,(qW (l.length*eN)).map fun q=>xs (q/eN) (q % eN),rfl,dN,hc,⟨by simp,aO,fun v mZ=>?_,fun i hi j hj oL=>?_⟩,fun q v hq=>?_⟩
  ·obtain⟨q,hq,rfl⟩:=fb.1 mZ;obtain⟨k1,k2,k3⟩:=hdiv q (zT.1 hq);exact(cx _ k1 _ k2).2
  ·simp only[iQ,Jx];have dI:j<eN:=by rw[<-aO _ (db hi)];exact hj
   have h1:(i*eN+j)/eN=i:=by rw[akl,Nat.mul_add_div (by omega),Nat.div_eq_of_lt dI];rfl
   have h2:(i*eN+j) % eN=j:=by rw[akl,Nat.mul_add_mod,Nat.mod_eq_of_lt dI]
   rw[h1,h2];exact hv i hi j hj
  ·have ψ:q<l.length*eN:=by have:=(fI.1 hq).1;simpa using this
   obtain⟨k1,k2,k3⟩:=hdiv q ψ;simp only[od,akj ψ,p8,a_]at hq;subst hq;have:=(cx _ k1 _ k2).1;rwa[k3]at this
theorem VR.Iz{c:τ}{l:List AV}{sz b o n cap:Nat}{vs:List Value}(h:FR g bP sz l vs)(hn:l.length=n)(dN:n<=cap)(hc:mP g n b o cap c)
  (cx:∀q v,vs[q]?=some v->g.im b (o+q)=some v):VR g lb (.list c l) (.slice (some ⟨b,o,none⟩) n cap):=by
 subst hn;have ψ:∀i,i<l.length->∀j,j<sz->i*sz+j<vs.length:=fun i hi j hj=>by rw[h.1];exact DQ hi hj
 refine .list _ c l b o sz _ cap (fun i j=>vs.getD (i*sz+j) Go.undef) rfl dN hc h.2.1 (fun i hi j hj=>?_) (fun i hi j hj=>?_)
 ·have hl:=ψ i hi j hj;refine⟨?_,?_⟩
  ·rw[nr,dp hl];exact cx _ _ (dp hl)
  ·rw[nr,dp hl];exact h.2.2.1 _ (db hl)
 ·have dI:j<sz:=by rw[<-h.2.1 _ (db hi)];exact hj
  have hl:=ψ i hi j dI;rw[nr,dp hl];exact h.2.2.2 i hi j hj hl
theorem FR.one{v:AV}{x:Value}{sz:Nat}(h:VR g lb v x)(hs:v.cells.length=sz)(h0:0<sz):FR g lb sz [v] x.cells.toList:=by
 obtain⟨h1,h2,h3⟩:=h.cells (by intro hn;rw[hn]at hs;simp at hs;omega);refine⟨by simp[h1,hs],by simp[hs],fun u hu=>?_,fun i hi j hj oL=>?_⟩
 ·obtain⟨i,hi,rfl⟩:=o_.1 hu;simpa using h3 i (by simpa using hi)
 ·have:i=0:=by simpa using hi
  subst this;have:=h2 j (by simpa using hj) (by simp at oL;omega);simpa using this
def Gh.row(g:Gh)(b:Nat)(vs:List Value):Gh:= {g with im:=fun b' o=>if b'=b then vs[o]? else g.im b' o}
theorem WJ{b:Nat}{vs:List Value}(h:∀o,g.im b o=none):g.sub (g.row b vs):=
 ⟨fun b' o x hx=>(by
  simp only[Gh.row];rw[if_neg]
  ·exact hx
  ·rintro rfl;rw[h]at hx;cases hx),fun _ _ h=>h,fun _ _ _ h=>h⟩
theorem ah7(hm:aZ g own LC mem w)(hl:cj g lb own loc w)(ho:bO base own w){l:List AV}{a:Array Value}{sz:Nat}{e:TypeId}(hf:FR g bP sz l a.toList):
  gX base LC g lb own loc w (.list .full l) none mem (.slice (some ⟨w.heap.size,0,none⟩) l.length l.length) (w.alloc (.cells a e)):=by
 have hn:=w9 hm;have c_:g.sub (g.row w.heap.size a.toList):=WJ hn;have Ω:=ep.alloc g own w (.cells a e) none;have Dg:∀b o,own b=some o->∀q,(g.row w.heap.size a.toList).im b q=g.im b q:=fun b o hb q=>by simp[Gh.row,zp ho hb]
 have lz:=hm.alloc ho (.cells a e) none;refine⟨g.row w.heap.size a.toList,lb,_,⟨c_,Ω.size,Ω.os,Ω.tape,Ω.output,Ω.ba,Ω.jD,fun b hb _ q=>by simp only[Gh.row];rw[if_neg (by omega)]⟩,
  fun _ _ _ h=>h,?_,?_,?_,ho.alloc _ _⟩
 ·refine VR.Iz (hf.mono c_ (fun _ _ _ h=>by cases h)) rfl (b_ _) rfl (fun q v hq=>?_);simp only[Gh.row,lN,if_true];exact hq
 ·refine lz.ba c_ (fun _ h=>h) (fun _ _ h=>h) (fun id b hb=>⟨rfl,rfl,?_⟩) (fun b o x hx=>?_)
  ·have aW:own b=some (.m id):=by
    simp only[gL]at hb;split at hb
    ·cases hb
    ·exact hb
   exact Dg b _ aW
  ·simp only[Gh.row]at hx;split at hx
   ·rename_i ko;subst ko;simp only[sq,qi];simpa using hx
   ·exact lz.im b o x hx
 ·refine(hl.alloc ho (.cells a e) none).ba c_ (fun d b hb=>⟨rfl,rfl,?_⟩);have aW:own b=some (.l d):=by
   simp only[gL]at hb;split at hb
   ·cases hb
   ·exact hb
  exact Dg b _ aW
end
section
variable{P:Program}{base:Nat}{LC:eS}{g g':Gh}{lb lb':LB}{own aD:OW}{loc:Nat->Option (Nat×θ)}{mem:Mem}{w w':World}
def Gh.grow(g:Gh)(t k b cap:Nat):Gh:= {g with rows:=fun t' k'=>if t'=t/\k'=k then some (b,cap)else g.rows t' k'}
theorem SN{t k b cap:Nat}(h:g.rows t k=none):g.sub (g.grow t k b cap):=
 ⟨fun _ _ _ h=>h,fun _ _ h=>h,fun t' k' x hx=>(by
  simp only[Gh.grow];rw[if_neg]
  ·exact hx
  ·rintro⟨rfl,rfl⟩;rw[h]at hx;cases hx)⟩
theorem AK(hm:aZ g own LC mem w)(hl:cj g lb own loc w)(ho:bO base own w){t n sz cap:Nat}{e:TypeId}{l:List AV}{vs:List Value}{rest:Array Value}{m':Mem}
  (hf:FR g bP sz l vs) (hn:l.length=n) (h0:0<sz) (dN:n<=cap) (pK:rest.size=(cap-n)*sz) (nQ:∀m x,g.rows t m=some x->m<n) (jt:g.mb t=none)
  (lz:(t=mem.ε.length/\m'=mem.push (.front n sz e))\/(t<mem.ε.length/\m'=mem.put t (.front n sz e) true)):
  gX base LC g lb own loc w (.list (.own t) l) none m' (.slice (some ⟨w.heap.size,0,none⟩) n cap) (w.drew.alloc (.cells (vs.toArray++rest) e)):=by
 refine gX.drew ?_;have yH:=hm.drew;have Dk:=hl.drew;have Dr:=ho.drew;have aO:w.heap.size=w.drew.heap.size:=rfl;rw[aO];generalize w.drew=w at*;clear hm hl ho;have qm:=w9 yH;have MX:g.rows t n=none:=by
  cases hx:g.rows t n with
  |none=>rfl
  |some x=>have:=nQ n x hx;omega
 let o:=Obj.cells (vs.toArray++rest) e;let g1:=g.row w.heap.size vs;let g':=g1.grow t n w.heap.size cap;have uc:g.sub g1:=WJ qm;have c_:g.sub g':=Gh.BH uc (SN (by exact MX));have Ω:=ep.alloc g own w o (some (.m t));have Un:∀b o',own b=some o'->∀q,g'.im b q=g.im b q:=fun b o' hb q=>by simp[g',g1,Gh.grow,Gh.row,zp Dr hb]
 have hlen:vs.length=n*sz:=by rw[<-hn];exact hf.1
 have Dg:∀id b,own b=some (.m id)->gL own w.heap.size (some (.m t)) b=own b/\(w.alloc o).heap[b]?=w.heap[b]?/\∀q,g'.im b q=g.im b q:=
  fun id b hb=>⟨by simp[gL,zp Dr hb],tU w o (Dr.ge b _ hb).2,Un b _ hb⟩
 have cx:∀b q x,g'.im b q=some x->(w.alloc o).cell? ⟨b,q,none⟩=some x:=by
  intro b q x hx;have gj:(if b=w.heap.size then vs[q]? else g.im b q)=some x:=hx;split at gj
  ·rename_i ko;subst ko;simp only[sq,o,qi];have hq:q<vs.length:=(fI.1 gj).1;rw[Array.getElem?_append_left (by simpa using hq)];simpa using gj
  ·have:=yH.im b q x gj;rw[p_ (tU w o (wb this))];exact this
 have gG:tA g' (gL own w.heap.size (some (.m t))) LC (w.alloc o) t (.front n sz e):=by
  refine⟨h0,w.heap.size,cap,by simp[g',Gh.grow],dN,by simp[gL],⟨_,qi w o,?_⟩,fun q hq=>?_,fun m x hx=>?_,jt⟩
  ·simp only[Array.size_append,List.size_toArray,hlen,pK,<-kA];congr 1;omega
  ·show(if w.heap.size=w.heap.size then vs[q]? else _)=none;rw[if_pos rfl,gW (by omega)]
  ·simp only[g',Gh.grow]at hx;split at hx
   ·rename_i h;omega
   ·exact zV (nQ m x hx)
 refine⟨g',lb,gL own w.heap.size (some (.m t)),⟨c_,Ω.size,Ω.os,Ω.tape,Ω.output,Ω.ba,Ω.jD,fun b hb _ q=>?_⟩,fun _ _ _ h=>h,?_,?_,?_,Dr.alloc _ _⟩
 ·simp only[g',g1,Gh.grow,Gh.row];rw[if_neg (by omega)]
 ·refine VR.Iz (hf.mono c_ (fun _ _ _ h=>by cases h)) hn dN ⟨rfl,by simp[g',Gh.grow]⟩ (fun q v hq=>?_);show(if w.heap.size=w.heap.size then vs[0+q]? else _)=some v;rw[if_pos rfl,lN];exact hq
 ·rcases lz with⟨ht,rfl⟩|⟨ht,rfl⟩
  ·have hk:aZ g own LC mem w:=yH;refine⟨fun id b hb=>?_,fun t' k x hx=>?_,fun id blk hid=>?_,cx⟩
   ·have:=yH.jq id b hb;simp only[Mem.push,cX,cN,eT];omega
   ·simp only[Mem.push,cX,cN,eT];simp only[g',g1,Gh.grow,Gh.row]at hx;split at hx
    ·omega
    ·have:=yH.nj t' k x hx;omega
   ·simp only[Mem.push]at hid;rcases di id mem.ε.length with ψ|eH
    ·rw[d_ ψ]at hid;refine(yH.blk id blk hid).ba c_ (Dg id) (fun k hk=>?_) (fun h=>h);simp only[g',g1,Gh.grow,Gh.row];rw[if_neg (by omega)];exact hk
    ·rw[uM eH]at hid;have:id=mem.ε.length:=by
      rcases di 0 (id-mem.ε.length)with h0|h0
      ·rw[gW (by simp;omega)]at hid;cases hid
      ·omega
     subst this;simp at hid;subst hid;rw[<-ht];exact gG
  ·refine yH.EJ ht c_ (fun _ h=>h) (fun t' k φ hk=>?_) (fun id b _ hb=>Dg id b hb) gG cx;simp only[g',g1,Gh.grow,Gh.row];rw[if_neg (by omega)];exact hk
 ·exact(Dk.alloc Dr o (some (.m t))).ba c_ fun d b hb=>⟨rfl,rfl,by
   have aW:own b=some (.l d):=by
    simp only[gL]at hb;split at hb
    ·cases hb
    ·exact hb
   exact Un b _ aW⟩
theorem WH(hm:aZ g own LC mem w)(hl:cj g lb own loc w)(ho:bO base own w){t n k sz cap b:Nat}{e:TypeId}{l m:List AV}{vs us:List Value}{cur:Array Value}
  (hf:FR g bP sz l vs) (hk:FR g bP sz m us) (hn:l.length=n) (wO:m.length=k) (oM:0<k) (ub:n+k<=cap) (gG:mem.ε[t]?=some (.front n sz e)) (hH:g.rows t n=some (b,cap))
  (Mi:∀q v,vs[q]?=some v->g.im b q=some v) (vc:w.heap[b]?=some (.cells cur e (0,0))):
  n*sz+us.length<=cur.size/\gX base LC g lb own loc w (.list (.own t) (l++m)) none (mem.put t (.front (n+k) sz e) true) (.slice (some ⟨b,0,none⟩) (n+k) cap) (w.setRow b (arr cur (n*sz) us)):=by
 obtain⟨h0,b',gh,h1,h2,h3,⟨a,h4,h5⟩,h6,h7,h8⟩:=hm.blk t _ gG;rw[hH]at h1;cases h1;rw[vc]at h4;cases h4;have hul:us.length=k*sz:=by rw[<-wO];exact hk.1
 have HR:vs.length=n*sz:=by rw[<-hn];exact hf.1
 have sO:n*sz+us.length<=cur.size:=by rw[hul,h5,<-kA];exact nu _ ub
 refine⟨sO,?_⟩;have DI:t<mem.ε.length:=(fI.1 gG).1;have MX:g.rows t (n+k)=none:=by
  cases hx:g.rows t (n+k)with
  |none=>rfl
  |some x=>have:=h7 _ x hx;omega
 let g1:Gh:= {g with im:=fun b' q=>if b'=b then(if n*sz<=q/\q<n*sz+us.length then us[q-n*sz]? else g.im b q)else g.im b' q};let g':=g1.grow t (n+k) b cap;have uc:g.sub g1:=⟨fun b' q x hx=>(by
  simp only[g1]
  split
  ·rename_i ko;subst ko;rw[if_neg]
   ·exact hx
   ·rintro⟨hq,_⟩;rw[h6 q hq]at hx;cases hx
  ·exact hx),fun _ _ h=>h,fun _ _ _ h=>h⟩
 have c_:g.sub g':=Gh.BH uc (SN (by exact MX));have Ω:=ep.setRow g w (arr cur (n*sz) us) h3;have ju:∀b',b'≠b->∀q,g'.im b' q=g.im b' q:=fun b' φ q=>by simp[g',g1,Gh.grow,φ]
 have aaX:(arr cur (n*sz) us).size=cur.size:=by simp[arr];omega
 have cx:∀b' q x,g'.im b' q=some x->(w.setRow b (arr cur (n*sz) us)).cell? ⟨b',q,none⟩=some x:=by
  intro b' q x hx;by_cases ko:b'=b
  ·subst ko;simp only[sq,setRow_heap w b' cur _ e _ vc];have gj:(if n*sz<=q/\q<n*sz+us.length then us[q-n*sz]? else g.im b' q)=some x:=by simpa[g',g1,Gh.grow]using hx
   simp only[akm,jO,if_false];split at gj
   ·rename_i hq;have:(arr cur (n*sz) us)[q]?=us[q-n*sz]?:=by
     have Ud:min (n*sz) cur.size=n*sz:=by omega
     simp only[arr,Jw];rw[bQ,uM (by simp;omega),d_ (by simp;omega)];simp[Ud]
    rw[this];exact gj
   ·rename_i hq;have vn:q<n*sz:=by
     rcases di q (n*sz)with h|h
     ·exact h
     ·rw[h6 q h]at gj;cases gj
    have hold:=hm.im _ _ _ gj;simp only[sq,vc,akm,jO,if_false]at hold;have:(arr cur (n*sz) us)[q]?=cur[q]?:=by simp only[arr,Jw];rw[bQ,d_ (by simp;omega)];simp[vn]
    rw[this];exact hold
  ·rw[ju b' ko]at hx;rw[p_ (Go.setRow_other w b b' _ ko)];exact hm.im _ _ _ hx
 refine⟨g',lb,own,⟨c_,Ω.size,Ω.os,Ω.tape,Ω.output,Ω.ba,Ω.jD,fun b' _ AM q=>ju b' (by rintro rfl;rw[h3]at AM;cases AM) q⟩,fun _ _ _ h=>h,?_,?_,?_,ho.setRow _ _⟩
 ·refine VR.Iz (sz:=sz) ((hf.append hk).mono c_ (fun _ _ _ h=>by cases h)) (by simp[hn,wO]) ub ⟨rfl,by simp[g',Gh.grow]⟩ (fun q v hq=>?_);rw[lN];show(if b=b then _ else _)=some v;rw[if_pos rfl];rcases di q vs.length with ψ|eH
  ·rw[d_ ψ]at hq;rw[if_neg (by omega)];exact Mi q v hq
  ·rw[uM eH]at hq;have Uw:q-vs.length<us.length:=(fI.1 hq).1;rw[if_pos (by omega),<-HR];exact hq
 ·refine hm.EJ DI c_ (fun _ h=>h) (fun t' k' φ c8=>?_) (fun id b' φ aW=>?_) ?_ cx
  ·simp only[g',g1,Gh.grow];rw[if_neg (by omega)];exact c8
  ·have ry:b'≠b:=by rintro rfl;rw[h3]at aW;cases aW;exact φ rfl
   exact⟨rfl,Go.setRow_other w b b' _ ry,ju b' ry⟩
  ·refine⟨h0,b,cap,by simp[g',Gh.grow],ub,h3,⟨_,setRow_heap w b cur _ e _ vc,by rw[aaX];exact h5⟩,fun q hq=>?_,fun m' x hx=>?_,h8⟩
   ·show(if b=b then _ else _)=none;rw[kA]at hq;rw[if_pos rfl,if_neg (by omega)];exact h6 q (by omega)
   ·simp only[g',g1,Gh.grow]at hx;split at hx
    ·rename_i h;omega
    ·have:=h7 m' x hx;omega
 ·exact hl.ba c_ fun d b' aW=>by
   have ry:b'≠b:=by rintro rfl;rw[h3]at aW;cases aW
   exact⟨rfl,Go.setRow_other w b b' _ ry,ju b' ry⟩
theorem I6{ag:Bool}{sz:Nat}{v:AV}(h:shaped ag sz v=true):v.cells.length=sz:=by cases v<;>simp_all [shaped,AV.cells,AV.one]
theorem PF(hm:aZ g own LC mem w)(hl:cj g lb own loc w)(ho:bO base own w){x y:AV}{xv yv:Value}(hx:VR g lb x xv)(hy:VR g lb y yv)
  {t ty e:TypeId} {i:TypeInfo} {z:Value} (ht:P.underlying t=some (.slice e)) (hi:P.info? e=some i) (hz:i.zero=some z) (kI:z.cells.size=i.size)
  {ag:Bool} {v:AV} {m':Mem} (hr:iq mem ag i.size i.bytes e x y=some (v,m')):
  ∃(xr:Value) (w':World),(Builtin.append_ #[t,t] ty #[xv,yv]).run P w= .ok xr w'/\gX base LC g lb own loc w v none m' xr w':=by
 unfold iq at hr;split at hr
 ·rename_i c l c' m;split at hr
  ·rename_i iY;simp only[dy,dL,decide_eq_true_eq]at iY;obtain⟨⟨⟨⟨mC,nO⟩,h0⟩,va⟩,hlen⟩:=iY;have MF:∀e∈m,e.cells.length=i.size:=fun e he=>I6 (mC e he);have TY:∀e∈l,e.cells.length=i.size:=fun e he=>I6 (nO e he);by_cases rF:m=[]
   ·subst rF;have hv:v= .list c l/\m'=mem:=by cases c<;>simp only[a_,az]at hr<;>exact⟨hr.1.symm,hr.2.symm⟩
    obtain⟨rfl,rfl⟩:=hv;refine⟨xv,w,?_,gX.pure hm hl ho hx⟩;have Nh:∃a cp,yv= .slice a 0 cp:=by
     cases hy with
     |iM=>exact⟨_,_,rfl⟩
     |h_=>exact⟨_,_,rfl⟩
     |list _ _ _ b o sz n cap xs hn=>simp at hn;subst hn;exact⟨_,_,rfl⟩
    obtain⟨a,cp,rfl⟩:=Nh;have DM:∃a n cp,xv= .slice a n cp/\n<=cp:=by
     cases hx with
     |iM=>exact⟨_,_,_,rfl,b_ _⟩
     |h_=>exact⟨_,_,_,rfl,vY _⟩
     |list _ _ _ b o sz n cap xs hn dN=>exact⟨_,_,_,rfl,dN⟩
    obtain⟨a',n,dD,rfl,hle⟩:=DM;cases a<;>cases a'<;>simp[Builtin.append_,run_underlying ht,sizeOf,typeInfo,hi,Builtin.lenOf,Builtin.firstCells,loadCells,loadCellsFrom,hle,storeCells]
   ·have A0:0<m.length:=by cases m with|nil=>exact absurd rfl rF|cons=>simp
    obtain⟨yb,yo,tz,us,rfl,-,-,kV,Ml⟩:=hy.flat MF rF;have sS:∀j u,us[j]?=some u->w.cell? ((⟨yb,yo,none⟩:Addr).add j)=some u:=fun j u hj=>by rw[Addr.add_mid];exact hm.im _ _ _ (Ml j u hj)
    have wL:=kV.ν hm;have vi:((l.length+m.length:Nat):Int)<=9223372036854775807:=by omega
    cases c with
    |any=>
     cases m with
     |nil=>exact absurd rfl rF
     |cons=>cases hr
    |full=>
     have jv:v= .list (.own mem.ε.length) (l++m.map mem.ν)/\m'=mem.push (.front (l.length+m.length) i.size e):=by
      cases m with
      |nil=>exact absurd rfl rF
      |cons=>simp only[a_,az]at hr;exact⟨hr.1.symm,hr.2.symm⟩
     obtain⟨rfl,rfl⟩:=jv;have nQ:∀k x,g.rows mem.ε.length k=some x->k<l.length+m.length:=fun k x hx=>absurd (hm.nj _ _ _ hx) (akk _);have jt:g.mb mem.ε.length=none:=by
      cases hx:g.mb mem.ε.length with
      |none=>rfl
      |some b=>exact absurd (hm.jq _ _ hx) (akk _)
     by_cases hle:l=[]
     ·subst hle;have DM:(xv= .slice none 0 0)\/(∃ad,xv= .slice (some ad) 0 0):=by
       cases hx with
       |h_ _ _ ad cap hc=>
        rcases hc with hc|⟨_,hc⟩
        ·cases hc
        ·exact .inr ⟨ad,by rw[hc]⟩
       |list _ _ _ b o sz n cap xs hn dN hc=>simp at hn;subst hn;exact .inr ⟨⟨b,o,none⟩,by simp only[mP]at hc;subst hc;rfl⟩
      simp only[eT,lN,bB]at va vi nQ⊢;rcases DM with rfl|⟨ad,rfl⟩
      ·refine⟨_,_,run_append_nil (P:=P) w t ty e i z ht hi hz ⟨yb,yo,none⟩ m.length tz us kV.1 sS A0 vi (by omega),?_⟩;have:=AK (m':=mem.push (.front m.length i.size e)) hm hl ho (rest:=Builtin.zeroCells z.cells (grownCap w m.length 0 e-m.length)) wL (by simp) h0 (grownCap_ge w m.length 0 e) (by rw[size_zeroCells,kI]) nQ jt (.inl ⟨rfl,rfl⟩);exact this
      ·have hg:=run_append_grow (P:=P) w t ty e i z ht hi hz ad 0 0 [] (by simp) (by simp) ⟨yb,yo,none⟩ m.length tz us kV.1 sS (by omega) (by omega) (growslice_fits (by omega) (by simpa using va));refine⟨_,_,hg,?_⟩;simp only[lN];have:=AK (m':=mem.push (.front m.length i.size e)) hm hl ho (rest:=Builtin.zeroCells z.cells (grownCap w m.length 0 e-m.length)) wL (by simp) h0 (grownCap_ge w m.length 0 e) (by rw[size_zeroCells,kI]) nQ jt (.inl ⟨rfl,rfl⟩);simpa using this
     ·obtain⟨b,o,cap,vs,rfl,-,hc,mA,gH⟩:=hx.flat TY hle;simp only[mP]at hc;subst hc;have holds:∀j u,vs[j]?=some u->w.cell? ((⟨b,o,none⟩:Addr).add j)=some u:=fun j u hj=>by rw[Addr.add_mid];exact hm.im _ _ _ (gH j u hj)
      have hg:=run_append_grow (P:=P) w t ty e i z ht hi hz ⟨b,o,none⟩ l.length l.length vs mA.1 holds ⟨yb,yo,none⟩ m.length tz us kV.1 sS (by omega) vi (growslice_fits (by omega) va);refine⟨_,_,hg,?_⟩;have:=AK (m':=mem.push (.front (l.length+m.length) i.size e)) hm hl ho (rest:=Builtin.zeroCells z.cells (grownCap w (l.length+m.length) l.length e-(l.length+m.length))) (mA.append wL) (by simp) h0 (grownCap_ge w _ _ e) (by rw[size_zeroCells,kI]) nQ jt (.inl ⟨rfl,rfl⟩);simpa using this
    |nil=>
     have jv:v= .list (.own mem.ε.length) (l++m.map mem.ν)/\m'=mem.push (.front (l.length+m.length) i.size e):=by
      cases m with
      |nil=>exact absurd rfl rF
      |cons=>simp only[a_,az]at hr;exact⟨hr.1.symm,hr.2.symm⟩
     obtain⟨rfl,rfl⟩:=jv;have nQ:∀k x,g.rows mem.ε.length k=some x->k<l.length+m.length:=fun k x hx=>absurd (hm.nj _ _ _ hx) (akk _);have jt:g.mb mem.ε.length=none:=by
      cases hx:g.mb mem.ε.length with
      |none=>rfl
      |some b=>exact absurd (hm.jq _ _ hx) (akk _)
     obtain⟨rfl,rfl⟩:l=[]/\xv= .slice none 0 0:=by
      cases hx with
      |iM=>exact⟨rfl,rfl⟩
      |h_ _ _ a cap hc=>rcases hc with hc|⟨hc,_⟩<;>cases hc
      |list _ _ _ b o sz n cap xs hn dN hc=>exact hc.elim
     simp only[eT,lN,bB]at va vi nQ⊢;refine⟨_,_,run_append_nil (P:=P) w t ty e i z ht hi hz ⟨yb,yo,none⟩ m.length tz us kV.1 sS A0 vi (by omega),?_⟩;exact AK (m':=mem.push (.front m.length i.size e)) hm hl ho (rest:=Builtin.zeroCells z.cells (grownCap w m.length 0 e-m.length)) wL (by simp) h0 (grownCap_ge w m.length 0 e) (by rw[size_zeroCells,kI]) nQ jt (.inl ⟨rfl,rfl⟩)
    |own tg=>
     have jv:mem.ε[tg]?=some (.front l.length i.size e)/\v= .list (.own tg) (l++m.map mem.ν)/\m'=mem.put tg (.front (l.length+m.length) i.size e) true:=by
      cases m with
      |nil=>exact absurd rfl rF
      |cons a m=>
       simp only[]at hr
       split at hr
       ·rename_i gG;split at hr
        ·rename_i hc;obtain⟨rfl,rfl,rfl⟩:=hc;simp only[a_,az]at hr;exact⟨gG,hr.1.symm,hr.2.symm⟩
        ·cases hr
       ·cases hr
     obtain⟨gG,rfl,rfl⟩:=jv;have DI:tg<mem.ε.length:=(fI.1 gG).1;obtain⟨-,b1,ajP,qt,aa3,aj',⟨cur,vc,TB⟩,aj5,Mw,jt⟩:=hm.blk tg _ gG;by_cases hle:l=[]
     ·subst hle;cases hx with
      |h_ _ _ a cap hc=>rcases hc with hc|⟨hc,_⟩<;>cases hc
      |list _ _ _ b o sz n cap xs hn dN hc=>
       simp at hn;subst hn
       obtain⟨rfl,hH⟩:=hc;simp only[eT]at qt;rw[hH]at qt;simp only[a_,az]at qt;obtain⟨rfl,rfl⟩:=qt;simp only[eT,lN,bB]at va vi Mw gG aa3⊢;by_cases ub:m.length<=cap
       ·obtain⟨sO,oQ⟩:=WH hm hl ho (FR.nil i.size) wL (by simp) (by simp) A0 (by omega) gG hH (by simp) vc;simp only[akn,lN,bB]at sO oQ;have hg:=run_append_room (P:=P) w t ty e i ht hi b 0 cap cur vc ⟨yb,yo,none⟩ m.length tz us kV.1 sS kV.2.2.1 (by omega) (by omega);simp only[lN,akn]at hg;have he:arr cur 0 us=(List.take 0 cur.toList++us++List.drop us.length cur.toList).toArray:=by simp[arr]
        rw[<-he]at hg;exact⟨_,_,hg,oQ⟩
       ·have hg:=run_append_grow (P:=P) w t ty e i z ht hi hz ⟨b,0,none⟩ 0 cap [] (by simp) (by simp) ⟨yb,yo,none⟩ m.length tz us kV.1 sS (by omega) (by omega) (growslice_fits (by omega) (by simpa using va));refine⟨_,_,hg,?_⟩;simp only[lN];have:=AK (m':=mem.put tg (.front m.length i.size e) true) hm hl ho (rest:=Builtin.zeroCells z.cells (grownCap w m.length cap e-m.length)) wL (by simp) h0 (grownCap_ge w m.length cap e) (by rw[size_zeroCells,kI]) (fun k x hk=>by have:=Mw k x hk;omega) jt (.inr ⟨DI,rfl⟩);simpa using this
     ·obtain⟨b,o,cap,vs,rfl,-,hc,mA,gH⟩:=hx.flat TY hle;obtain⟨rfl,hH⟩:=hc;rw[hH]at qt;simp only[a_,az]at qt;obtain⟨rfl,rfl⟩:=qt;by_cases ub:l.length+m.length<=cap
      ·obtain⟨sO,oQ⟩:=WH hm hl ho mA wL rfl (by simp) A0 ub gG hH (fun q v hq=>by simpa using gH q v hq) vc;have hg:=run_append_room (P:=P) w t ty e i ht hi b l.length cap cur vc ⟨yb,yo,none⟩ m.length tz us kV.1 sS kV.2.2.1 ub sO;exact⟨_,_,hg,oQ⟩
      ·have holds:∀j u,vs[j]?=some u->w.cell? ((⟨b,0,none⟩:Addr).add j)=some u:=fun j u hj=>by rw[Addr.add_mid];exact hm.im _ _ _ (gH j u hj)
       have hg:=run_append_grow (P:=P) w t ty e i z ht hi hz ⟨b,0,none⟩ l.length cap vs mA.1 holds ⟨yb,yo,none⟩ m.length tz us kV.1 sS (by omega) vi (growslice_fits (by omega) va);refine⟨_,_,hg,?_⟩;have:=AK (m':=mem.put tg (.front (l.length+m.length) i.size e) true) hm hl ho (rest:=Builtin.zeroCells z.cells (grownCap w (l.length+m.length) cap e-(l.length+m.length))) (mA.append wL) (by simp) h0 (grownCap_ge w _ _ e) (by rw[size_zeroCells,kI]) (fun k x hk=>by have:=Mw k x hk;omega) jt (.inr ⟨DI,rfl⟩);simpa using this
  ·cases hr
 ·cases hr
end
section
variable{P:Program}{g:Gh}{lb:LB}{w:World}
theorem VF{a b:List UInt8}(h:a.map UInt8.toNat=b.map UInt8.toNat):a=b:=by
 induction a generalizing b with
 |nil=>cases b with
  |nil=>rfl
  |cons=>simp at h
 |cons x a ih=>cases b with
  |nil=>simp at h
  |cons y b=>
   simp only[ax,List.cons.injEq]at h
   rw[UInt8.toNat_inj.1 h.1,ih h.2]
theorem afk(a b:List UInt8):xk (a.map UInt8.toNat) (b.map UInt8.toNat)=Op.bytesLess a b:=by
 induction a generalizing b with
 |nil=>cases b<;>rfl
 |cons x a ih=>
  cases b with
  |nil=>rfl
  |cons y b=>
   simp only[ax,xk,Op.bytesLess,ih]
   congr 1;congr 1;by_cases h:x=y
   ·subst h;simp
   ·have:x.toNat≠y.toNat:=fun e=>h (UInt8.toNat_inj.1 e);simp[h,this]
theorem O6{a b:ByteArray}{s t:List Nat}(ha:a.data.toList.map UInt8.toNat=s)(hb:b.data.toList.map UInt8.toNat=t):(a.toList==b.toList)=decide (s=t):=by
 rw[ByteArray.toList_eq,ByteArray.toList_eq];subst ha hb;by_cases h:a.data.toList=b.data.toList
 ·rw[h];simp
 ·have h2:a.data.toList.map UInt8.toNat≠b.data.toList.map UInt8.toNat:=fun e=>h (VF e);rw[decide_eq_false h2];exact beq_eq_false_iff_ne.2 h
theorem ED{a:ByteArray}{s:List Nat}(ha:a.data.toList.map UInt8.toNat=s):a.size=s.length:=by subst ha;simp
theorem XL{op:BinOp}{k:IntKind}{a b:Int}{v:AV}(h:jm op k a b=some v):
  ∃x,(match op with
   | .add| .sub| .mul=>Op.intArith op k a b
   | .quo| .rem=>Op.intDiv op k a b
   | .and| .or| .xor| .andNot=>Op.intBits op k a b
   |_=>Op.intCmp op a b).run P w= .ok x w/\VR g lb v x:=by
 cases op<;>simp only[jm]at h
 case quo=>
  split at h
  ·cases h
  ·rename_i hb;cases h;exact⟨_,by simp[Op.intDiv,hb],.int _ _ _⟩
 case rem=>
  split at h
  ·cases h
  ·rename_i hb;cases h;exact⟨_,by simp[Op.intDiv,hb],.int _ _ _⟩
 all_goals first|(cases h;done)|(cases h;first|exact⟨_,rfl,.int _ _ _⟩|exact⟨_,rfl,.bool _ _⟩)
theorem XM{op:BinOp}{a b:ByteArray}{s t:List Nat}{v:AV}(ha:a.data.toList.map UInt8.toNat=s)(hb:b.data.toList.map UInt8.toNat=t)(h:cD op s t=some v):
  ∃x,(Op.stringOp op a b).run P w= .ok x w/\VR g lb v x:=by
 have he:=O6 ha hb;have hl:xk s t=Op.bytesLess a.toList b.toList:=by rw[ByteArray.toList_eq,ByteArray.toList_eq,<-afk,ha,hb]
 have hs:(a.size+b.size:Nat)=s.length+t.length:=by rw[ED ha,ED hb]
 cases op<;>simp only[cD]at h
 case add=>
  split at h
  ·cases h
  ·rename_i hc;cases h;rw[<-hs]at hc;refine⟨.string (a++b),by simp only[Op.stringOp,if_neg hc];rfl,.str _ _ _ ?_⟩;rw[<-ha,<-hb];simp
 all_goals first|(cases h;done)|(cases h;exact⟨_,by simp only[Op.stringOp,he,hl];rfl,.bool _ _⟩)
theorem run_equalIn_bool(d:Nat){t:TypeId}(hu:P.underlying t=some .bool)(a b:Bool):(Op.equalIn (d+1) t (.bool a) (.bool b)).run P w= .ok (a==b) w:=by simp only[Op.equalIn,Sem.run_bind,run_underlying hu,Result.andThen_ok];rfl
theorem XK{op:BinOp}{t:TypeId}{x y:AV}{xv yv:Value}{v:AV}(hx:VR g lb x xv)(hy:VR g lb y yv)(h:iS op x y=some v):
  ∃r,(binOp op t xv yv).run P w= .ok r w/\VR g lb v r:=by
 unfold iS at h;split at h
 ·rename_i k a k' b;cases hx;cases hy;cases op
  case shl=>
   dsimp only at h
   split at h
   ·cases h
   ·rename_i hc;cases h;exact⟨_,by simp[binOp,Op.shift,hc],.int _ _ _⟩
  case shr=>
   dsimp only at h
   split at h
   ·cases h
   ·rename_i hc;cases h;exact⟨_,by simp[binOp,Op.shift,hc],.int _ _ _⟩
  all_goals
   dsimp only at h;split at h
   ·rename_i hk;subst hk;obtain⟨r,h1,h2⟩:=XL (P:=P) (w:=w) (g:=g) (lb:=lb) h;exact⟨r,by simpa[binOp]using h1,h2⟩
   ·cases h
 ·cases hx;cases hy;rename_i ha _ aW;obtain⟨r,h1,h2⟩:=XM (P:=P) (w:=w) (g:=g) (lb:=lb) ha aW h;exact⟨r,by cases op<;>simpa[binOp]using h1,h2⟩
 ·cases h
theorem XN{op:UnOp}{x:AV}{xv:Value}{v:AV}(hx:VR g lb x xv)(h:jE op x=some v):∃r,(Op.unary op xv).run P w= .ok r w/\VR g lb v r:=by
 unfold jE at h;split at h
 ·cases hx;cases h;exact⟨_,rfl,.int _ _ _⟩
 ·cases hx;cases h;exact⟨_,rfl,.bool _ _⟩
 ·cases h
theorem V3{p:AV}{x:Value}{off:Nat}{v:AV}(hx:VR g lb p x)(h:jA p off=some v):∃a:Addr,x= .pointer (some a)/\VR g lb v (.pointer (some (a.add off))):=by
 unfold jA at h;split at h
 ·cases hx;rename_i b hb;cases h;exact⟨_,rfl,by rw[Addr.add_mid];exact .ak _ _ _ _ _ hb⟩
 ·cases hx;rename_i b hb;cases h;exact⟨_,rfl,by rw[Addr.add_mid];exact .κ _ _ _ _ hb⟩
 ·split at h
  ·rename_i l hle;cases hx;rename_i b o xs cx hv;cases h;refine⟨_,rfl,?_⟩;rw[Addr.add_mid];refine .ref _ _ b (o+off) (fun i=>xs (off+i)) (fun i hi=>?_) (fun i hi=>?_)
   ·have:=cx (off+i) (by simp at hi;omega);rwa[<-uN]at this
   ·simp only[xF];exact hv (off+i) (by simp at hi;omega)
  ·cases h
 ·cases h
theorem JJ{ag:Bool}{l:List AV}{a:Array Value}{v:AV}(hp:PW (VR g lb) l a.toList)(h1:∀v∈a.toList,v.oneCell'=true)(h:iu ag l=some v):
  (ag=true->VR g lb v (.agg a))/\(ag=false->∃x,a= #[x]/\VR g lb v x):=by
 have hlen:l.length=a.size:=by simpa using hp.1
 unfold iu at h;split at h
 ·rename_i lv;cases h;refine⟨fun _=> .agg _ _ _ hlen.symm (fun i hi=>h1 _ (by simp)) (fun i hi ae=>by have:=hp.2 i hi (by simpa using ae);rwa[ma]at this),fun hf=>by rw[lv]at hf;cases hf⟩
 ·rename_i lv;unfold single at h;split at h
  ·cases h;refine⟨fun hf=>absurd hf lv,fun _=>?_⟩;obtain⟨xs⟩:=a
   match xs,hlen with
   |[x],_=>exact⟨x,rfl,hp.2 0 (by simp) (by simp)⟩
  ·cases h
theorem V5{l:List AV}{a:Array Value}{t:TypeId}{off n:Nat}{ag:Bool}{v:AV}(hl:VR g lb (.agg l) (.agg a))(hle:off+n<=l.length)
  (lv:(isAgg t).run P w= .ok ag w) (aO:(sizeOf t).run P w= .ok n w) (h:iu ag ((l.drop off).take n)=some v):∃r,(part t a off).run P w= .ok r w/\VR g lb v r:=by
 cases hl with
 |agg _ _ _ hs h1 hv=>
 have oP:PW (VR g lb) l a.toList:=⟨by simpa using hs.symm,fun i hi ae=>by simpa using hv i hi (by simpa using ae)⟩
 have hp:PW (VR g lb) ((l.drop off).take n) (a.extract off (off+n)).toList:=by have:=(oP.drop off).take n;simpa[ako,Pn]using this
 have nF:∀v∈(a.extract off (off+n)).toList,v.oneCell'=true:=by
  intro v mZ;have:v∈a.toList:=by rw[ako,Pn]at mZ;exact tE (qV mZ)
  obtain⟨i,hi,rfl⟩:=o_.1 this;simpa using h1 i (by simpa using hi)
 obtain⟨k1,k2⟩:=JJ hp nF h;cases ag with
 |true=>exact⟨_,by simp[part,lv,aO],k1 rfl⟩
 |false=>
  obtain⟨x,hx,hvx⟩:=k2 rfl
  have UC:(a.extract off (off+n)).size=1:=by rw[hx];rfl
  have hn:n=1:=by simp at UC;omega
  subst hn;have mB:a[off]?=some x:=by
   have h0:=congrArg (fun z:Array Value=>z[0]?) hx;have ψ:off<a.size:=by omega
   simp only[Array.getElem?_extract]at h0;rw[if_pos (by omega)]at h0;simpa using h0
  exact⟨x,by simp[part,lv,mB],hvx⟩
def NK.fits(P:Program)(t:TypeId):NK->Value->Prop
 | .ptr,v=>(∃e,P.underlying t=some (.pointer e))/\v= .pointer none
 | .slice,v=>(∃e,P.underlying t=some (.slice e))/\v= .slice none 0 0
 | .fn,v=>(∃a b c,P.underlying t=some (.func a b c))/\v= .nilFunc
 | .iface,v=>(∃m,P.underlying t=some (.interface m))/\v= .nilIface
 | .map,v=>(∃k e,P.underlying t=some (.map k e))/\v= .map none
theorem aci{t:TypeId}{k:NK}{x:AV}{xv Of:Value}{r:Bool}(hx:VR g lb x xv)(h:isNil k x=some r)(ht:k.fits P t Of):
  (Op.equal t xv Of).run P w= .ok r w:=by
 have key:∀d,(Op.equalIn (d+1) t xv Of).run P w= .ok r w:=by
  intro d;unfold isNil at h;split at h<;>first|(cases h;done)|skip
  all_goals cases h
  all_goals first
   |(obtain⟨⟨e,hu⟩,rfl⟩:=ht;cases hx<;>first|(simp only[Op.equalIn,Sem.run_bind,run_underlying hu,Result.andThen_ok];rfl)|(exfalso;simp_all [mP];done))
   |(obtain⟨⟨e,e',hu⟩,rfl⟩:=ht;cases hx<;>(simp only[Op.equalIn,Sem.run_bind,run_underlying hu,Result.andThen_ok];rfl))
   |(obtain⟨⟨e,e',e'',hu⟩,rfl⟩:=ht;cases hx<;>(simp only[Op.equalIn,Sem.run_bind,run_underlying hu,Result.andThen_ok];rfl))
 exact key 9999
end
def E0:Value->Option AV
 | .bool b=>some (.bool b)
 | .int k n=>some (.int k n)
 | .string s=>some (.str (s.data.toList.map UInt8.toNat))
 | .pointer none=>some .ig
 | .slice none 0 0=>some (.list .nil [])
 | .map none=>some .fQ
 | .nilFunc=>some .eQ
 | .nilIface=>some .gq
 |_=>none
def E1:List Value->Option (List AV)
 |[]=>some []
 |v::l=>match E0 v,E1 l with
  |some a,some m=>some (a::m)
  |_,_=>none
def Ca:Value->Option AV
 | .agg cs=>(E1 cs.toList).map .agg
 | .tuple a=>if a.size=0 then some .undef else none
 | .func (.func f) a b=>if a.size=0/\b.size=0 then some (.fn (.func f) [] [])else none
 |v=>E0 v
def cw:Operand->Option bh
 | .tmp t=>some (.t t)
 | .const v=>(Ca v).map .c
 | .global g=>some (.g g)
 | .func f=>some (.c (.fn (.func f) [] []))
def v8:List Operand->Option (List bh)
 |[]=>some []
 |x::l=>match cw x,v8 l with
  |some a,some m=>some (a::m)
  |_,_=>none
section
variable(P:Program)
def kO(t:TypeId):Option Nat:=match P.info? t with
 |some i=>if 0<i.size then some i.size else none
 |none=>none
def vO(t:TypeId):Option Bool:=match P.underlying t with
 |some (.struct _)=>some true
 |some (.array _ _)=>some true
 |some _=>some false
 |none=>none
def uG(t:TypeId):Option (List AV):=match P.info? t with
 |some i=>match i.zero with
  |some z=>match Ca z with
   |some v=>if 0<i.size/\z.cells.size=i.size/\v.cells.length=i.size then some v.cells else none
   |none=>none
  |none=>none
 |none=>none
def Xm(t:TypeId):Option AV:=match P.info? t with
 |some i=>match i.zero with
  |some z=>Ca z
  |none=>none
 |none=>none
def Jf(s:TypeId)(f:Nat):Option (Nat×TypeId):=match P.underlying s with
 |some (.struct fields)=>match fields[f]? with
  |some fd=>some (fd.offset,fd.type)
  |none=>none
 |_=>none
def places:List Field->Option (List (Nat×Nat))
 |[]=>some []
 |f::l=>match P.info? f.type,places l with
  |some i,some m=>some ((f.offset,i.size)::m)
  |_,_=>none
def Ae(fields:Array Field):List (Nat×Operand)->Option (List (Nat×Nat×bh))
 |[]=>some []
 |(i,x)::l=>match fields[i]?,cw x,Ae fields l with
  |some fd,some x',some l'=>match kO P fd.type with
   |some n=>some ((fd.offset,n,x')::l')
   |none=>none
  |_,_,_=>none
def Ad(sz:Nat):List (Nat×Operand)->Option (List (Nat×Nat×bh))
 |[]=>some []
 |(i,x)::l=>match cw x,Ad sz l with
  |some x',some l'=>some ((i*sz,sz,x')::l')
  |_,_=>none
def Fu:Nat->List (Nat×Operand)->Option (List Operand)
 |_,[]=>some []
 |k,(i,x)::l=>if i=k then(Fu (k+1) l).map (x::·)else none
def pO(t:TypeId):Option KK:=match P.underlying t with
 |some (.int _)=>some .int
 |some .string=>some .str
 |some .bool=>some .bool
 |_=>none
def FK:Nat->List Field->Option (List KK)
 |_,[]=>some []
 |k,f::l=>match pO P f.type,kO P f.type,FK (k+1) l with
  |some kk,some 1,some ks=>if f.name≠ "_" /\f.offset=k then some (kk::ks)else none
  |_,_,_=>none
def CH(t:TypeId):Option (List KK):=
 if P.eqGuardType P.depth t then none else
 match P.underlying t with
  |some (.struct fields)=>if P.stoodInHeld t then none else FK P 0 fields.toList
  |some (.array n e)=>match pO P e,kO P e with
   |some kk,some 1=>some (List.replicate n kk)
   |_,_=>none
  |_=>none
def tM:Option Operand->Option (Option bh)
 |none=>some none
 |some x=>(cw x).map some
def Oe:NK->Operand->Bool
 | .ptr,.const (.pointer none)=>true
 | .slice,.const (.slice none 0 0)=>true
 | .fn,.const .nilFunc=>true
 | .iface,.const .nilIface=>true
 | .map,.const (.map none)=>true
 |_,_=>false
def uU(k:NK)(op:BinOp)(x:bh)(y:Operand):Option AO:=
 if Oe k y then match op with
  | .eql=>some (.y_ false k x)
  | .neq=>some (.y_ true k x)
  |_=>none
 else none
def O_(t:TypeId):Option TypeId:=match P.info? t with
 |some i=>match i.desc,i.zero,P.underlying t with
  | .named "strings.Builder" _,some (.agg ⟨[.pointer none,.slice none 0 0]⟩),some (.struct ⟨[_,fd]⟩)=>match P.underlying fd.type with
   |some (.slice e)=>some e
   |_=>none
  |_,_,_=>none
 |none=>none
def At(bj:Nat->Bool):Option Nat->Bool
 |some d=>bj d
 |none=>false
def K'(bj:Nat->Bool):Option Nat->Bool
 |some d=>bj (d+1048576)
 |none=>false
def cO(bj:Nat->Bool)(o:Oper):Option AO:=
 match o.op with
 | .move x=>(cw x).map .mv
 | .assign x=>(cw x).map .mv
 | .pick c a b=>match cw c,cw a,cw b with
  |some c,some a,some b=>some (.pick c a b)
  |_,_,_=>none
 | .alloc e=>match o.dst,uG P e with
  |some d,some z=>match(if bj d then O_ P e else none)with
   |some be=>some (.abld e be)
   |none=>some (.alloc (bj d) z)
  |_,_=>none
 | .box e x=>match o.dst,kO P e,cw x with
  |some d,some n,some x=>some (.box (bj d) n x)
  |_,_,_=>none
 | .build t parts=>match uG P t,P.underlying t with
  |some z,some (.struct fields)=>match places P fields.toList with
   |some _=>(Ae P fields parts.toList).map (.build z)
   |none=>none
  |some z,some (.array _ e)=>match kO P e with
   |some sz=>(Ad sz parts.toList).map (.build z)
   |none=>none
  |_,_=>none
 | .buildSlice t len parts=>match P.underlying t,Fu 0 parts.toList with
  |some (.slice e),some xs=>match kO P e,vO P e,uG P e,v8 xs with
   |some sz,some ag,some _,some vQ=>if xs.length=len/\len*sz<=2^24 then some (.ca ag sz vQ)else none
   |_,_,_,_=>none
  |_,_=>none
 | .load t a=>match vO P t,kO P t,cw a with
  |some ag,some n,some a=>some (.ld ag n a)
  |_,_,_=>none
 | .store t a x=>match kO P t,cw a,cw x with
  |some n,some a,some x=>some (.st n a x)
  |_,_,_=>none
 | .nilCheck x=>(cw x).map .vC
 | .binOp op t x y _=>
  match P.underlying t,cw x,cw y with
  |some (.int _),some x',some y'=>some (.bin op x' y')
  |some .string,some x',some y'=>some (.bin op x' y')
  |some .bool,some x',some y'=>(match op with
    | .eql=>some (.x7 false x' y')
    | .neq=>some (.x7 true x' y')
    |_=>none)
  |some (.struct _),some x',some y'=>(match CH P t,op with
    |some ks,.eql=>some (.eqs false ks x' y')
    |some ks,.neq=>some (.eqs true ks x' y')
    |_,_=>none)
  |some (.array _ _),some x',some y'=>(match CH P t,op with
    |some ks,.eql=>some (.eqs false ks x' y')
    |some ks,.neq=>some (.eqs true ks x' y')
    |_,_=>none)
  |some (.pointer _),some x',some _=>uU .ptr op x' y
  |some (.slice _),some x',some _=>uU .slice op x' y
  |some (.func _ _ _),some x',some _=>uU .fn op x' y
  |some (.interface _),some x',some _=>uU .iface op x' y
  |some (.map _ _),some x',some _=>uU .map op x' y
  |_,_,_=>none
 | .makeSlice t n c=>match P.underlying t,cw n,cw c with
  |some (.slice e),some n,some c=>match uG P e,P.info? e with
   |some z,some i=>some (.mkslc (if(vO P e).getD true then z.length else 0) z i.bytes n c)
   |_,_=>none
  |_,_,_=>none
 | .unOp op _ x=>(cw x).map (.un op)
 | .convert s d x=>match P.underlying s,P.underlying d,cw x with
  |some _,some (.int k),some x=>some (.conv (.int k) x)
  |some .string,some .string,some x=>some (.conv .same x)
  |some (.int _),some .string,some x=>some (.conv .char x)
  |_,_,_=>none
 | .makeInterface t x=>match P.underlying t,cw x with
  |some (.interface _),_=>none
  |some _,some x=>some (.NY t x)
  |_,_=>none
 | .makeFunc (.func f) a b=>match v8 a.toList,v8 b.toList with
  |some a,some b=>some (.jf (.func f) a b)
  |_,_=>none
 | .fieldAddr s x f=>match Jf P s f,cw x with
  |some (off,t),some x=>match kO P t with
   |some _=>some (.fa off x)
   |none=>none
  |_,_=>none
 | .field s x f=>match Jf P s f,cw x with
  |some (off,t),some x=>match kO P t,vO P t with
   |some n,some ag=>some (.oz ag off n x)
   |_,_=>none
  |_,_=>none
 | .indexAddr t x i=>match P.underlying t,cw x,cw i with
  |some (.slice e),some x,some i=>(kO P e).map fun sz=> .ia sz x i
  |some (.array n e),some x,some i=>(kO P e).map fun sz=> .rP n sz x i
  |_,_,_=>none
 | .index t x i=>match P.underlying t,cw x,cw i with
  |some (.array n e),some x,some i=>match kO P e,vO P e with
   |some sz,some ag=>some (.Bf ag n sz x i)
   |_,_=>none
  |some .string,some x,some i=>some (.lW x i)
  |_,_,_=>none
 | .lookup t m k ok=>match P.underlying t,cw m,cw k with
  |some (.map kt e),some m,some k=>match Xm P e,pO P kt with
   |some z,some kk=>some (.lookup kk z ok m k)
   |_,_=>none
  |_,_,_=>none
 | .mapUpdate t m k v=>match P.underlying t,cw m,cw k,cw v with
  |some (.map kt _),some m,some k,some v=>(pO P kt).map fun kk=> .mapup kk m k v
  |_,_,_,_=>none
 | .insert t m k v=>match P.underlying t,cw m,cw k,cw v with
  |some (.map kt _),some m,some k,some v=>(pO P kt).map fun kk=> .mapup kk m k v
  |_,_,_,_=>none
 | .makeMap _ none=>some .mkmap
 | .makeMap t (some (.const (.int _ _)))=>match P.underlying t with
  |some (.map _ _)=>some .mkmap
  |_=>none
 | .slice t x lo hi mx=>match P.underlying t,cw x,tM lo,tM hi,tM mx with
  |some (.slice e),some x,some lo,some hi,some mx=>if mx.isSome&& !hi.isSome then none else(kO P e).map fun sz=> .vK sz x lo hi mx
  |some .string,some x,some lo,some hi,some none=>some (.zG x lo hi)
  |_,_,_,_,_=>none
 | .extract x k=>(cw x).map fun x=> .ext x k
 | .call c=>match c.callee with
  | .value f=>match cw f,v8 c.args.toList with
   |some f',some args=>some (if K' bj o.dst then(match f with| .func k=> .call (.c (.fn (.methodOf k "") [] [])) args|_=> .bad)else if At bj o.dst then .callz f' args else .call f' args)
   |_,_=>none
  | .builtin .append=>match c.args.toList,c.argTypes.toList with
   |[x,y],[t,t']=>match P.underlying t,cw x,cw y with
    |some (.slice e),some x,some y=>match P.info? e,vO P e,uG P e with
     |some i,some ag,some _=>if t=t' then some (if At bj o.dst then .appm ag i.size i.bytes e x y else .app ag i.size i.bytes e x y)else none
     |_,_,_=>none
    |_,_,_=>none
   |_,_=>none
  | .builtin .len=>match c.args.toList,c.argTypes.toList with
   |[x],[t]=>match P.underlying t,cw x with
    |some .string,some x=>some (.lens x)
    |some (.slice _),some x=>some (.len x)
    |some (.map _ _),some x=>some (.D1 x)
    |some (.array n _),some _=>some (.NM n)
    |_,_=>none
   |_,_=>none
  | .builtin .delete=>match c.args.toList,c.argTypes.toList with
   |[m,k],t::_=>match P.underlying t,cw m,cw k with
    |some (.map kt _),some m,some k=>(pO P kt).map fun kk=> .del kk m k
    |_,_,_=>none
   |_,_=>none
  | .builtin .copy=>match c.args.toList,c.argTypes.toList with
   |[x,y],t::_=>match P.underlying t,cw x,cw y with
    |some (.slice e),some x,some y=>(kO P e).map fun sz=> .cpy sz x y
    |_,_,_=>none
   |_,_=>none
  | .builtin .clear=>match c.args.toList,c.argTypes.toList with
   |[x],[t]=>match P.underlying t,cw x with
    |some (.slice e),some x=>(uG P e).map fun z=> .clr z x
    |_,_=>none
   |_,_=>none
  | .builtin .max=>match c.args.toList with
   |[x,y]=>match cw x,cw y with
    |some x,some y=>some (.max x y)
    |_,_=>none
   |_=>none
  | .builtin .min=>match c.args.toList with
   |[x,y]=>match cw x,cw y with
    |some x,some y=>some (.min x y)
    |_,_=>none
   |_=>none
  |_=>none
 | .range t x=>match P.underlying t,cw x with
  |some .string,some x=>some (.qQ x)
  |_,_=>none
 | .next x true=>(cw x).map .zl
 |_=>none
def Rj(bj:Nat->Bool)(o:Oper):AO:=(cO P bj o).getD .bad
end
section
variable{P:Program}{g:Gh}{lb:LB}
theorem Pu{v:Value}{a:AV}(h:E0 v=some a):VR g lb a v/\v.oneCell'=true:=by
 unfold E0 at h;split at h<;>first|(cases h;done)|skip
 all_goals(cases h;refine⟨?_,rfl⟩)
 ·exact .bool _ _
 ·exact .int _ _ _
 ·exact .str _ _ _ rfl
 ·exact .ig _
 ·exact .iM _
 ·exact .fQ _
 ·exact .eQ _
 ·exact .gq _
theorem XO{l:List Value}{m:List AV}(h:E1 l=some m):PW (VR g lb) m l/\∀v∈l,v.oneCell'=true:=by
 induction l generalizing m with
 |nil=>cases h;exact⟨PW.nil,by simp⟩
 |cons v l ih=>
  simp only[E1]at h
  split at h
  ·rename_i a m' h1 h2;cases h;obtain⟨k1,k2⟩:=ih h2;obtain⟨k3,k4⟩:=Pu (g:=g) (lb:=lb) h1;exact⟨PW.cons k3 k1,by simp only[List.mem_cons,forall_eq_or_imp];exact⟨k4,k2⟩⟩
  ·cases h
theorem JF{v:Value}{a:AV}(h:Ca v=some a):VR g lb a v:=by
 unfold Ca at h;split at h
 ·rename_i cs;simp only[bA]at h;obtain⟨l,hl,rfl⟩:=h;obtain⟨k1,k2⟩:=XO (g:=g) (lb:=lb) hl;exact .agg _ _ _ (by simpa using k1.1.symm) (fun i hi=>k2 _ (by simp)) (fun i hi ae=>by have:=k1.2 i hi (by simpa using ae);rwa[ma]at this)
 ·rename_i a;split at h
  ·rename_i h0;cases h;have:a= #[]:=Array.size_eq_zero_iff.1 h0;subst this;exact .undef _
  ·cases h
 ·rename_i f a b;split at h
  ·rename_i h0;cases h;refine .fn _ _ _ _ _ a b h0.1 h0.2 rfl (fun i hi=>by simp at hi) (fun i hi=>by simp at hi)
  ·cases h
 ·exact(Pu h).1
end
section
variable{P:Program}{base:Nat}{LC:eS}{g:Gh}{lb:LB}{own:OW}{loc:Nat->Option (Nat×θ)}{mem:Mem}{w:World}{bj:Nat->Bool}{ay:cg}
variable{ev:bh->AV}{a:Act}
def qY(P:Program)(base:Nat)(LC:eS)(g:Gh)(lb:LB)(own:OW)(loc:Nat->Option (Nat×θ))(w:World)(a:Act)(o:Oper)(v:AV)(u:kB)(m':Mem):Prop:=
 ∃x w',((execOp a.eval o).run P w= .ok (.value x) w'\/((execOp a.eval o).run P w= .ok .skip w'/\x=undef))/\gX base LC g lb own loc w v u m' x w'
abbrev gA(P:Program)(bj:Nat->Bool)(base:Nat)(LC:eS)(g:Gh)(lb:LB)(own:OW)(loc:Nat->Option (Nat×θ))(mem:Mem)(w:World)(ay:cg)(ev:bh->AV)(a:Act)(o:Oper)(ao:AO)(v:AV)(u:kB)(m':Mem):Prop:=cO P bj o=some ao->aJ ev loc mem ay o.dst ao=some (v,u,m')->qY P base LC g lb own loc w a o v u m'
def eO(g:Gh)(lb:LB)(ev:bh->AV)(a:Act):Prop:=∀x x',cw x=some x'->VR g lb (ev x') (a.eval x)
theorem FD(aw:eO g lb ev a){l:List Operand}{m:List bh}(h:v8 l=some m):PW (VR g lb) (m.map ev) (l.map a.eval):=by
 induction l generalizing m with
 |nil=>cases h;exact PW.nil
 |cons x l ih=>
  simp only[v8]at h
  split at h
  ·rename_i x' m' h1 h2;cases h;exact PW.cons (aw _ _ h1) (ih h2)
  ·cases h
theorem o6{t:TypeId}{n:Nat}(h:kO P t=some n):(sizeOf t).run P w= .ok n w/\0<n/\(P.info? t).map (·.size)=some n:=by
 unfold kO at h;split at h
 ·rename_i i hi;split at h
  ·rename_i h0;cases h;exact⟨by simp[sizeOf,typeInfo,hi],h0,by simp[hi]⟩
  ·cases h
 ·cases h
theorem Je{t:TypeId}{ag:Bool}(h:vO P t=some ag):(isAgg t).run P w= .ok ag w:=by
 unfold vO at h;split at h
 ·rename_i hu;cases h;simp[isAgg,run_underlying hu]
 ·rename_i hu;cases h;simp[isAgg,run_underlying hu]
 ·rename_i d h1 h2 hu;cases h;have hd:∀w:World,(isAgg t).run P w=(match d with| .struct _| .array _ _=>(pure true:Sem Bool)|_=>pure false).run P w:=fun w=>by simp only[isAgg,Sem.run_bind,run_underlying hu,Result.andThen_ok]
  rw[hd];cases d<;>first|rfl|(exact absurd rfl (h1 _))|(exact absurd rfl (h2 _ _))
 ·cases h
theorem zJ{t:TypeId}{l:List AV}(h:uG P t=some l):∃z i,P.info? t=some i/\i.zero=some z/\(zeroValue t).run P w= .ok z w/\z.cells.size=i.size/\l.length=i.size/\0<i.size∧
  PW (VR g lb) l z.cells.toList/\∀v∈z.cells.toList,v.oneCell'=true:=by
 unfold uG at h;split at h
 ·rename_i i hi;split at h
  ·rename_i z hz;split at h
   ·rename_i v hv;split at h
    ·rename_i hc;cases h;have wY:=JF (g:=g) (lb:=lb) hv;obtain⟨k1,k2,k3⟩:=wY.cells (by intro hn;rw[hn]at hc;simp at hc;omega);refine⟨z,i,hi,hz,by simp[zeroValue,typeInfo,hi,hz],hc.2.1,hc.2.2,hc.1,⟨by simpa using k1.symm,fun i hi ae=>?_⟩,fun u hu=>?_⟩
     ·have:=k2 i hi (by simpa using ae);rwa[ma]
     ·obtain⟨j,hj,rfl⟩:=o_.1 hu;have:=k3 j (by simpa using hj);rwa[ma]
    ·cases h
   ·cases h
  ·cases h
 ·cases h
theorem IU{v:AV}{x:Value}(h:VR g lb v x)(hn:0<v.cells.length):PW (VR g lb) v.cells x.cells.toList/\∀u∈x.cells.toList,u.oneCell'=true:=by
 obtain⟨k1,k2,k3⟩:=h.cells (by intro h0;rw[h0]at hn;simp at hn);refine⟨⟨by simpa using k1.symm,fun i hi ae=>?_⟩,fun u hu=>?_⟩
 ·have:=k2 i hi (by simpa using ae);rwa[ma]
 ·obtain⟨j,hj,rfl⟩:=o_.1 hu;have:=k3 j (by simpa using hj);rwa[ma]
theorem La(off:Nat):∀(vs:List Value) (k:Nat) (cs:Array Value),off+k+vs.length<=cs.size→
  ((vs.zipIdx k).foldl (fun cs (c,j)=>cs.setIfInBounds (off+j) c) cs).toList=cs.toList.take (off+k)++vs++cs.toList.drop (off+k+vs.length)
 |[],k,cs,_=>by simp
 |v::vs,k,cs,h=>by simp only[cN]at h;simp only[List.zipIdx_cons,List.foldl_cons];rw[La off vs (k+1) (cs.setIfInBounds (off+k) v) (by simp;omega)];have:=Go.list_seg_step cs.toList (off+k) v vs (by simp;omega);simpa[Array.toList_setIfInBounds,uN,Nat.add_comm,Nat.add_left_comm]using this
theorem KY(aw:eO g lb ev a)(place:Nat->Option (Nat×Nat)):∀(parts:List (Nat×Operand)) (ps:List (Nat×Nat×bh)) (cs:List AV) (vs:Array Value) (r:List AV),
  parts.length=ps.length->(∀k (h:k<parts.length) (h':k<ps.length),place parts[k].1=some (ps[k].1,ps[k].2.1)/\cw parts[k].2=some ps[k].2.2/\0<ps[k].2.1)→
  PW (VR g lb) cs vs.toList->(∀v∈vs.toList,v.oneCell'=true)->dG ev ps cs=some r→
  ∃ws:Array Value,Instr.fill place vs (parts.map fun(i,x)=>(i,a.eval x))=some ws/\PW (VR g lb) r ws.toList/\∀v∈ws.toList,v.oneCell'=true
 |[],[],cs,vs,r,_,_,hp,h1,hr=>by cases hr;exact⟨vs,rfl,hp,h1⟩
 |[],_::_,_,_,_,hl,_,_,_,_=>by simp at hl
 |_::_,[],_,_,_,hl,_,_,_,_=>by simp at hl
 |(i,x)::parts,(off,size,x')::ps,cs,vs,r,hl,hk,hp,h1,hr=>by
  obtain⟨k1,k2,k3⟩:=hk 0 (by simp) (by simp);simp only[kz]at k1 k2 k3;simp only[dG]at hr;split at hr
  ·rename_i hc;obtain⟨eA,hle⟩:=hc;obtain⟨q1,q2⟩:=IU (aw _ _ k2) (by omega);have aO:(a.eval x).cells.size=size:=by have:=q1.1;simp at this;omega
   have A_:vs.size=cs.length:=by have:=hp.1;simp at this;omega
   let tw:Array Value:=(a.eval x).cells.zipIdx.foldl (fun cs (c,j)=>cs.setIfInBounds (off+j) c) vs;have DJ:tw.toList=vs.toList.take off++(a.eval x).cells.toList++vs.toList.drop (off+(a.eval x).cells.toList.length):=by have h:=La off (a.eval x).cells.toList 0 vs (by simp only[vS,aO,A_];omega);simp only[qX]at h;rw[<-h];simp only[tw,<-akp,akq]
   have qs:PW (VR g lb) (dk cs off (ev x').cells) tw.toList:=by rw[DJ];unfold dk;have hlen:=q1.1;rw[hlen];exact((hp.take off).append q1).append (hp.drop _)
   have nF:∀v∈tw.toList,v.oneCell'=true:=by
    rw[DJ];intro v hv;rcases dQ.1 hv with hv|hv
    ·rcases dQ.1 hv with hv|hv
     ·exact h1 _ (qV hv)
     ·exact q2 _ hv
    ·exact h1 _ (tE hv)
   obtain⟨ws,e1,e2,e3⟩:=KY aw place parts ps _ tw r (by simpa using hl) (fun k h h'=>by have:=hk (k+1) (by simpa using h) (by simpa using h');simpa using this) qs nF hr;refine⟨ws,?_,e2,e3⟩;simp only[ax,Instr.fill,k1];rw[if_neg (by simp[aO,A_];omega)];exact e1
  ·cases hr
theorem aia{fs:List Field}{m:List (Nat×Nat)}(h:places P fs=some m):(fs.mapM fun f=>do pure (f.offset,<-sizeOf f.type):Sem (List (Nat×Nat))).run P w= .ok m w∧
  ∀(k:Nat) (fd:Field),fs[k]?=some fd->∃i,P.info? fd.type=some i/\m[k]?=some (fd.offset,i.size):=by
 induction fs generalizing m with
 |nil=>cases h;exact⟨rfl,by simp⟩
 |cons f fs ih=>
  simp only[places]at h
  split at h
  ·rename_i i m' hi hm;cases h;obtain⟨k1,k2⟩:=ih hm;refine⟨?_,fun k fd hk=>?_⟩
   ·have hs:(sizeOf f.type).run P w= .ok i.size w:=by simp[sizeOf,typeInfo,hi]
    simp only[List.mapM_cons,Sem.run_bind,hs,Result.andThen_ok,Sem.run_pure,k1]
   ·cases k with
    |zero=>simp at hk;subst hk;exact⟨i,hi,by simp⟩
    |succ k=>simpa using k2 k fd (by simpa using hk)
  ·cases h
theorem Y3{fields:Array Field}{parts:List (Nat×Operand)}{ps:List (Nat×Nat×bh)}(h:Ae P fields parts=some ps):
  parts.length=ps.length/\∀k (h:k<parts.length) (h':k<ps.length),(∃fd,fields[parts[k].1]?=some fd/\fd.offset=ps[k].1/\kO P fd.type=some ps[k].2.1)/\cw parts[k].2=some ps[k].2.2:=by
 induction parts generalizing ps with
 |nil=>cases h;exact⟨rfl,fun k h=>by simp at h⟩
 |cons p parts ih=>
  obtain⟨i,x⟩:=p
  simp only[Ae]at h;split at h
  ·rename_i fd x' l' h1 h2 h3;split at h
   ·rename_i n hn;cases h;obtain⟨e1,e2⟩:=ih h3;refine⟨by simp[e1],fun k hk c8=>?_⟩;cases k with
    |zero=>exact⟨⟨fd,h1,rfl,hn⟩,h2⟩
    |succ k=>exact e2 k (by simpa using hk) (by simpa using c8)
   ·cases h
  ·cases h
theorem Y2{sz:Nat}{parts:List (Nat×Operand)}{ps:List (Nat×Nat×bh)}(h:Ad sz parts=some ps):
  parts.length=ps.length/\∀k (h:k<parts.length) (h':k<ps.length),ps[k].1=parts[k].1*sz/\ps[k].2.1=sz/\cw parts[k].2=some ps[k].2.2:=by
 induction parts generalizing ps with
 |nil=>cases h;exact⟨rfl,fun k h=>by simp at h⟩
 |cons p parts ih=>
  obtain⟨i,x⟩:=p
  simp only[Ad]at h;split at h
  ·rename_i x' l' h2 h3;cases h;obtain⟨e1,e2⟩:=ih h3;refine⟨by simp[e1],fun k hk c8=>?_⟩;cases k with
   |zero=>exact⟨rfl,rfl,h2⟩
   |succ k=>exact e2 k (by simpa using hk) (by simpa using c8)
  ·cases h
theorem Pv{r:List AV}{ws:Array Value}(h:PW (VR g lb) r ws.toList)(h1:∀v∈ws.toList,v.oneCell'=true):VR g lb (.agg r) (.agg ws):=
 .agg _ _ _ (by simpa using h.1.symm) (fun i hi=>h1 _ (by simp)) fun i hi ae=>by have:=h.2 i hi (by simpa using ae);rwa[ma]at this
theorem Wo{r:List AV}{ws:Array Value}(h:VR g lb (.agg r) (.agg ws)):PW (VR g lb) r ws.toList/\∀v∈ws.toList,v.oneCell'=true:=by
 cases h with
 |agg _ _ _ hs h1 hv=>
  refine⟨⟨by simpa using hs.symm,fun i hi ae=>by rw[ma];exact hv i hi _⟩,fun v mZ=>?_⟩
  obtain⟨j,hj,rfl⟩:=o_.1 mZ;rw[ma];exact h1 j _
theorem run_build(aw:eO g lb ev a){t:TypeId}{parts:Array (Nat×Operand)}{z:List AV}{ps:List (Nat×Nat×bh)}{r:List AV}(hz:uG P t=some z)
  (dd:(∃fields m,P.underlying t=some (.struct fields)/\places P fields.toList=some m/\Ae P fields parts.toList=some ps)∨
   (∃n e sz,P.underlying t=some (.array n e)/\kO P e=some sz/\Ad sz parts.toList=some ps))
  (hr:dG ev ps z=some r):∃x,(Instr.build t (parts.map fun(i,x)=>(i,a.eval x))).run P w= .ok x w/\VR g lb (.agg r) x:=by
 obtain⟨zv,i,hi,fX,hU,-,-,-,cI,h1⟩:=zJ (P:=P) (g:=g) (lb:=lb) (w:=w) hz;have yG:(parts.map fun(i,x)=>(i,a.eval x)).toList=parts.toList.map fun(i,x)=>(i,a.eval x):=by simp
 rcases dd with⟨fields,m,hu,dS,hc⟩|⟨n,e,sz,hu,aO,hc⟩
 ·obtain⟨e1,e2⟩:=Y3 hc;obtain⟨p1,p2⟩:=aia (w:=w) dS;obtain⟨ws,k1,k2,k3⟩:=KY aw (fun i=>m.toArray[i]?) parts.toList ps z zv.cells r e1 (fun k h h'=>by
   obtain⟨⟨fd,q1,q2,q3⟩,q4⟩:=e2 k h h'
   obtain⟨i',q5,q6⟩:=p2 parts.toList[k].1 fd (by simpa using q1);unfold kO at q3;rw[q5]at q3;dsimp only at q3;split at q3
   ·rename_i h0;simp only[a_]at q3;refine⟨by simp only[Jw,q6,q2,q3],q4,by rw[<-q3];exact h0⟩
   ·cases q3) cI h1 hr
  refine⟨.agg ws,?_,Pv k2 k3⟩;have yI:(fields.mapM fun f=>do pure (f.offset,<-sizeOf f.type):Sem (Array (Nat×Nat))).run P w= .ok m.toArray w:=by rw[Array.mapM_eq_mapM_toList];simp only[Sem.run_map,p1,Result.andThen_ok]
  simp only[Instr.build,Sem.run_bind,hU,Result.andThen_ok,run_underlying hu,yI,yG,k1];rfl
 ·obtain⟨e1,e2⟩:=Y2 hc;obtain⟨s1,s2,-⟩:=o6 (P:=P) (w:=w) aO;obtain⟨ws,k1,k2,k3⟩:=KY aw (fun i=>some (i*sz,sz)) parts.toList ps z zv.cells r e1 (fun k h h'=>by
   obtain⟨q1,q2,q3⟩:=e2 k h h'
   exact⟨by rw[q1,q2],q3,by rw[q2];exact s2⟩) cI h1 hr
  refine⟨.agg ws,?_,Pv k2 k3⟩;simp only[Instr.build,Sem.run_bind,hU,Result.andThen_ok,run_underlying hu,s1,yG,k1];rfl
end
section
variable{P:Program}{base:Nat}{LC:eS}{g:Gh}{lb:LB}{own:OW}{loc:Nat->Option (Nat×θ)}{mem:Mem}{w:World}{bj:Nat->Bool}{ay:cg}
variable{ev:bh->AV}{a:Act}{o:Oper}{ao:AO}{v:AV}{u:kB}{m':Mem}
theorem qY.pure(hm:aZ g own LC mem w)(hl:cj g lb own loc w)(ho:bO base own w){x:Value}(h1:(execOp a.eval o).run P w= .ok (.value x) w)(h2:VR g lb v x):
  qY P base LC g lb own loc w a o v none mem:=⟨x,w,.inl h1,gX.pure hm hl ho h2⟩
theorem VV(aw:eO g lb ev a)(hm:aZ g own LC mem w)(hl:cj g lb own loc w)(ho:bO base own w){x:Operand}(Θ:o.op= .move x\/o.op= .assign x)
  :gA P bj base LC g lb own loc mem w ay ev a o ao v u m':=fun hc hr=>by
 have hx:∃x',cw x=some x'/\ao= .mv x':=by rcases Θ with Θ|Θ<;>simp only[cO,Θ,bA]at hc<;>(obtain⟨x',h1,rfl⟩:=hc;exact⟨x',h1,rfl⟩)
 obtain⟨x',gj,rfl⟩:=hx;simp only[aJ,a_,az]at hr;obtain⟨rfl,rfl,rfl⟩:=hr;exact .pure hm hl ho (by rcases Θ with Θ|Θ<;>simp only[execOp,Θ]<;>rfl) (aw _ _ gj)
theorem af5(aw:eO g lb ev a)(hm:aZ g own LC mem w)(hl:cj g lb own loc w)(ho:bO base own w){x y z:Operand}(Θ:o.op= .pick x y z)
  :gA P bj base LC g lb own loc mem w ay ev a o ao v u m':=fun hc hr=>by
 simp only[cO,Θ]at hc;split at hc
 ·rename_i x' y' z' h1 h2 h3;cases hc;simp only[aJ]at hr;split at hr
  ·rename_i t ht;simp only[a_,az]at hr;obtain⟨rfl,rfl,rfl⟩:=hr;have k1:=aw _ _ h1;rw[ht]at k1;cases hx:a.eval x<;>rw[hx]at k1<;>cases k1;refine .pure (x:=if t then a.eval y else a.eval z) hm hl ho ?_ ?_
   ·simp only[execOp,Θ,hx];cases t<;>rfl
   ·cases t
    ·exact aw _ _ h3
    ·exact aw _ _ h2
  ·cases hr
 ·cases hc
theorem afK(aw:eO g lb ev a)(hm:aZ g own LC mem w)(hl:cj g lb own loc w)(ho:bO base own w){t:TypeId}{parts:Array (Nat×Operand)}(Θ:o.op= .build t parts)
  :gA P bj base LC g lb own loc mem w ay ev a o ao v u m':=fun hc hr=>by
 have key:∃z ps,ao= .build z ps/\uG P t=some z/\((∃fields m,P.underlying t=some (.struct fields)/\places P fields.toList=some m/\Ae P fields parts.toList=some ps)∨
   (∃n e sz,P.underlying t=some (.array n e)/\kO P e=some sz/\Ad sz parts.toList=some ps)):=by
  simp only[cO,Θ]at hc;split at hc
  ·rename_i z fields hz hu;split at hc
   ·rename_i m dS;simp only[bA]at hc;obtain⟨ps,h1,rfl⟩:=hc;exact⟨z,ps,rfl,hz,.inl ⟨fields,m,hu,dS,h1⟩⟩
   ·cases hc
  ·rename_i z n e hz hu;split at hc
   ·rename_i sz aO;simp only[bA]at hc;obtain⟨ps,h1,rfl⟩:=hc;exact⟨z,ps,rfl,hz,.inr ⟨n,e,sz,hu,aO,h1⟩⟩
   ·cases hc
  ·cases hc
 obtain⟨z,ps,rfl,hz,dd⟩:=key;simp only[aJ,bA,az]at hr;obtain⟨r,hr,rfl,rfl,rfl⟩:=hr;obtain⟨x,h1,h2⟩:=run_build (w:=w) aw hz dd hr;exact .pure hm hl ho (by simp only[execOp,Θ,Sem.run_bind,h1,Result.andThen_ok];rfl) h2
theorem VR.aas{f f':Fn}{l m:List AV}{x y:Array Value}(h:VR g lb (.fn f l m) (.func f' x y))(hn:¬sh g.mb f f'):False:=by cases h;rename_i hy _ _;exact hn (by assumption)
theorem af3(aw:eO g lb ev a)(hm:aZ g own LC mem w)(hl:cj g lb own loc w)(ho:bO base own w){x:Operand}(Θ:o.op= .nilCheck x)
  :gA P bj base LC g lb own loc mem w ay ev a o ao v u m':=fun hc hr=>by
 simp only[cO,Θ,bA]at hc;obtain⟨x',h1,rfl⟩:=hc;have k1:=aw _ _ h1;have key:v=ev x'/\u=none/\m'=mem/\(execOp a.eval o).run P w= .ok (.value (a.eval x)) w:=by
  simp only[aJ]at hr;split at hr<;>first|(cases hr;done)|skip
  all_goals
   rename_i he;rw[he]at k1;simp only[a_,az]at hr;obtain⟨rfl,rfl,rfl⟩:=hr;refine⟨he.symm,rfl,rfl,?_⟩;cases hx:a.eval x<;>rw[hx]at k1<;>first
    |(cases k1;done)
    |(cases k1;simp only[execOp,Θ,hx];rfl)
    |(rename_i f' _ _;cases f'<;>first|(cases k1;simp only[execOp,Θ,hx];rfl)|(exact(VR.aas k1 (by simp[sh])).elim))
 obtain⟨rfl,rfl,rfl,h2⟩:=key;exact .pure hm hl ho h2 k1
theorem OR(op:BinOp)(t:TypeId)(x y:Operand){xv yv:Value}(h:(∀l,xv≠ .agg l)/\xv≠ .nilIface):(eqGuard op t x y xv yv).run P w= .ok () w:=by
 cases xv<;>first|(exact absurd rfl (h.1 _))|(exact absurd rfl h.2)|skip
 all_goals cases op<;>rfl
theorem VP(aw:eO g lb ev a)(hm:aZ g own LC mem w)(hl:cj g lb own loc w)(ho:bO base own w){op:BinOp}{t ty:TypeId}{x y:Operand}(Θ:o.op= .binOp op t x y ty)
  {x' y':bh} (hx:cw x=some x') (hy:cw y=some y')
  (hr:aJ ev loc mem ay o.dst (.bin op x' y')=some (v,u,m')):qY P base LC g lb own loc w a o v u m':=by
 simp only[aJ,bA,az]at hr;obtain⟨r,hr,rfl,rfl,rfl⟩:=hr;have k1:=aw _ _ hx;have k2:=aw _ _ hy;obtain⟨z,h1,h2⟩:=XK (P:=P) (w:=w) (t:=t) k1 k2 hr;refine .pure hm hl ho ?_ h2;have hg:(∀l,a.eval x≠ .agg l)/\a.eval x≠ .nilIface:=by
  unfold iS at hr;split at hr<;>first|(cases hr;done)|skip
  all_goals
   rename_i he _;rw[he]at k1;cases hz:a.eval x<;>rw[hz]at k1<;>cases k1<;>simp
 simp only[execOp,Θ,Sem.run_bind,OR op t x y hg,h1,Result.andThen_ok];rfl
theorem VQ(aw:eO g lb ev a)(hm:aZ g own LC mem w)(hl:cj g lb own loc w)(ho:bO base own w){op:BinOp}{t ty:TypeId}{x y:Operand}(Θ:o.op= .binOp op t x y ty)
  {x' y':bh} (hx:cw x=some x') (hy:cw y=some y') (hu:P.underlying t=some .bool) {neg:Bool} (hn:op=if neg then .neq else .eql)
  (hr:aJ ev loc mem ay o.dst (.x7 neg x' y')=some (v,u,m')):qY P base LC g lb own loc w a o v u m':=by
 simp only[aJ]at hr;split at hr
 ·rename_i b c e1 e2;simp only[a_,az]at hr;obtain⟨rfl,rfl,rfl⟩:=hr;have k1:=aw _ _ hx;have k2:=aw _ _ hy;rw[e1]at k1;rw[e2]at k2;cases bF:a.eval x<;>rw[bF]at k1<;>cases k1;cases vt:a.eval y<;>rw[vt]at k2<;>cases k2;have he:(Op.equal t (.bool b) (.bool c)).run P w= .ok (b==c) w:=run_equalIn_bool 9999 hu b c;refine .pure (x:= .bool (if neg then !(b==c)else b==c)) hm hl ho ?_ (.bool _ _);cases neg<;>simp only[jO,if_false,if_true]at hn<;>subst hn
  ·simp only[execOp,Θ,bF,vt,Sem.run_bind,OR .eql t x y (xv:= .bool b) (yv:= .bool c) (by simp),Result.andThen_ok,binOp,he];rfl
  ·simp only[execOp,Θ,bF,vt,Sem.run_bind,OR .neq t x y (xv:= .bool b) (yv:= .bool c) (by simp),Result.andThen_ok,binOp,he];rfl
 ·cases hr
theorem afo{k:NK}{y:Operand}{t:TypeId}(h:Oe k y=true)(ht:∀v,(match k with
  | .ptr=>v=Value.pointer none
  | .slice=>v= .slice none 0 0
  | .fn=>v= .nilFunc
  | .iface=>v= .nilIface
  | .map=>v= .map none)->k.fits P t v):∃v,y= .const v/\k.fits P t v/\(∀l,v≠ .agg l)/\(v= .nilIface->True)/\v.oneCell'=true:=by
 unfold Oe at h;split at h<;>first|(cases h;done)|exact⟨_,rfl,ht _ rfl,by simp,fun _=>trivial,rfl⟩
theorem ah'(op:BinOp)(t:TypeId)(x:Operand){xv v:Value}(h:∀l,v≠ .agg l):(eqGuard op t x (.const v) xv v).run P w= .ok () w:=by
 cases op<;>first|rfl|skip
 all_goals
  unfold eqGuard;cases xv<;>cases v<;>first|rfl|exact absurd rfl (h _)|(cases x<;>rfl)
theorem D'(aw:eO g lb ev a)(hm:aZ g own LC mem w)(hl:cj g lb own loc w)(ho:bO base own w){op:BinOp}{t ty:TypeId}{x y:Operand}(Θ:o.op= .binOp op t x y ty)
  {x':bh} (hx:cw x=some x') {k:NK} (hc:uU k op x' y=some ao) (ht:∀v,(match k with
  | .ptr=>v=Value.pointer none
  | .slice=>v= .slice none 0 0
  | .fn=>v= .nilFunc
  | .iface=>v= .nilIface
  | .map=>v= .map none)->k.fits P t v)
  (hr:aJ ev loc mem ay o.dst ao=some (v,u,m')):qY P base LC g lb own loc w a o v u m':=by
 unfold uU at hc;split at hc
 ·rename_i hn;obtain⟨nv,rfl,hf,lv,-,h1⟩:=afo (P:=P) (t:=t) hn ht;have k1:=aw _ _ hx;have TE:a.eval (.const nv)=nv:=rfl;obtain⟨xv,bF⟩:∃xv,a.eval x=xv:=⟨_,rfl⟩;rw[bF]at k1;have hg:=fun op=>ah' (P:=P) (w:=w) op t x (xv:=xv) lv;have Ts:∀r,isNil k (ev x')=some r->(binOp .eql t xv nv).run P w= .ok (.bool r) w/\(binOp .neq t xv nv).run P w= .ok (.bool (!r)) w:=by
   intro r hr;have he:=aci (P:=P) (w:=w) k1 hr hf;unfold isNil at hr;split at hr<;>first|(cases hr;done)|skip
   all_goals
    rename_i dY;rw[dY]at k1;cases k1<;>cases nv<;>first
     |(exact absurd rfl (lv _))
     |(cases h1;done)
     |(constructor<;>(simp only[binOp,Sem.run_bind,he,Result.andThen_ok];rfl))
     |(exfalso;obtain⟨_,hh⟩:=hf;cases hh;done)
  split at hc
  ·cases hc;simp only[aJ,bA,az,jO,if_false]at hr;obtain⟨r,hr,rfl,rfl,rfl⟩:=hr;refine .pure (x:= .bool r) hm hl ho ?_ (.bool _ _);simp only[execOp,Θ,bF,TE,Sem.run_bind,hg,Result.andThen_ok,(Ts r hr).1];rfl
  ·cases hc;simp only[aJ,bA,az,if_true]at hr;obtain⟨r,hr,rfl,rfl,rfl⟩:=hr;refine .pure (x:= .bool (!r)) hm hl ho ?_ (.bool _ _);simp only[execOp,Θ,bF,TE,Sem.run_bind,hg,Result.andThen_ok,(Ts r hr).2];rfl
  ·cases hc
 ·cases hc
theorem af_(aw:eO g lb ev a)(hm:aZ g own LC mem w)(hl:cj g lb own loc w)(ho:bO base own w){op:UnOp}{t:TypeId}{x:Operand}(Θ:o.op= .unOp op t x)
  :gA P bj base LC g lb own loc mem w ay ev a o ao v u m':=fun hc hr=>by
 simp only[cO,Θ,bA]at hc;obtain⟨x',h1,rfl⟩:=hc;simp only[aJ,bA,az]at hr;obtain⟨r,hr,rfl,rfl,rfl⟩:=hr;obtain⟨z,k1,k2⟩:=XN (P:=P) (w:=w) (aw _ _ h1) hr;exact .pure hm hl ho (by simp only[execOp,Θ,Sem.run_bind,k1,Result.andThen_ok];rfl) k2
theorem afM(aw:eO g lb ev a)(hm:aZ g own LC mem w)(hl:cj g lb own loc w)(ho:bO base own w){s d:TypeId}{x:Operand}(Θ:o.op= .convert s d x)
  :gA P bj base LC g lb own loc mem w ay ev a o ao v u m':=fun hc hr=>by
 simp only[cO,Θ]at hc;split at hc
 ·rename_i ds k x' hs hd hx;cases hc;simp only[aJ,bA,az]at hr;obtain⟨r,hr,rfl,rfl,rfl⟩:=hr;unfold mo at hr;split at hr
  ·rename_i he;cases hr;rename_i k' n hk;cases hk;have k1:=aw _ _ hx;rw[he]at k1;cases bF:a.eval x<;>rw[bF]at k1<;>cases k1;exact .pure hm hl ho (by simp only[execOp,Θ,bF,Sem.run_bind,convert,run_underlying hs,run_underlying hd,Result.andThen_ok];rfl) (.int _ _ _)
  ·rename_i h _;cases h
  ·rename_i h _;cases h
  ·cases hr
 ·rename_i x' hs hd hx;cases hc;simp only[aJ,bA,az]at hr;obtain⟨r,hr,rfl,rfl,rfl⟩:=hr;unfold mo at hr;split at hr
  ·rename_i h _;cases h
  ·rename_i he;cases hr;have k1:=aw _ _ hx;rw[he]at k1;cases bF:a.eval x<;>rw[bF]at k1<;>cases k1;rename_i hb;exact .pure hm hl ho (by simp only[execOp,Θ,bF,Sem.run_bind,convert,run_underlying hs,run_underlying hd,Result.andThen_ok];rfl) (.str _ _ _ hb)
  ·rename_i h _;cases h
  ·cases hr
 ·rename_i k x' hs hd hx;cases hc;simp only[aJ,bA,az]at hr;obtain⟨r,hr,rfl,rfl,rfl⟩:=hr;unfold mo at hr;split at hr
  ·rename_i h _;cases h
  ·rename_i h _;cases h
  ·rename_i he;cases hr;have k1:=aw _ _ hx;rw[he]at k1;cases bF:a.eval x<;>rw[bF]at k1<;>cases k1;exact .pure hm hl ho (by simp only[execOp,Θ,bF,Sem.run_bind,convert,run_underlying hs,run_underlying hd,Result.andThen_ok];rfl) (.str _ _ _ rfl)
  ·cases hr
 ·cases hc
theorem af0(aw:eO g lb ev a)(hm:aZ g own LC mem w)(hl:cj g lb own loc w)(ho:bO base own w){t:TypeId}{x:Operand}(Θ:o.op= .makeInterface t x)
  :gA P bj base LC g lb own loc mem w ay ev a o ao v u m':=fun hc hr=>by
 simp only[cO,Θ]at hc;split at hc
 ·cases hc
 ·rename_i d x' hni hu hx;cases hc;simp only[aJ,a_,az]at hr;obtain⟨rfl,rfl,rfl⟩:=hr;refine .pure hm hl ho (x:= .iface t (a.eval x)) ?_ (.iface _ _ _ _ (aw _ _ hx));have aa9:P.concrete t=true:=by unfold Program.concrete;rw[hu];cases d<;>first|rfl|exact absurd rfl (hni _)
  simp only[execOp,Θ,Sem.run_bind,run_makeInterface w t _ aa9,Result.andThen_ok];rfl
 ·cases hc
theorem afZ(aw:eO g lb ev a)(hm:aZ g own LC mem w)(hl:cj g lb own loc w)(ho:bO base own w){f:Fn}{x y:Array Operand}(Θ:o.op= .makeFunc f x y)
  :gA P bj base LC g lb own loc mem w ay ev a o ao v u m':=fun hc hr=>by
 cases f<;>simp only[cO,Θ]at hc<;>first|(cases hc;done)|skip
 rename_i f;split at hc
 ·rename_i x' y' hx hy;cases hc;simp only[aJ,a_,az]at hr;obtain⟨rfl,rfl,rfl⟩:=hr;have k1:=FD aw hx;have k2:=FD aw hy;refine .pure hm hl ho (x:= .func (.func f) (x.map a.eval) (y.map a.eval)) (by simp only[execOp,Θ];rfl) ?_;refine .fn _ _ _ _ _ _ _ (by simpa using k1.1.symm) (by simpa using k2.1.symm) rfl (fun i hi ae=>?_) (fun i hi ae=>?_)
  ·have:=k1.2 i hi (by simpa using ae);simpa using this
  ·have:=k2.2 i hi (by simpa using ae);simpa using this
 ·cases hc
theorem Xl{s f off:Nat}{t:TypeId}(h:Jf P s f=some (off,t)):∃fields fd,P.underlying s=some (.struct fields)/\fields[f]?=some fd/\fd.offset=off/\fd.type=t:=by
 unfold Jf at h;split at h
 ·rename_i fields hu;split at h
  ·rename_i fd hf;simp only[a_,az]at h;exact⟨fields,fd,hu,hf,h.1,h.2⟩
  ·cases h
 ·cases h
theorem afQ(aw:eO g lb ev a)(hm:aZ g own LC mem w)(hl:cj g lb own loc w)(ho:bO base own w){s:TypeId}{x:Operand}{f:Nat}(Θ:o.op= .fieldAddr s x f)
  :gA P bj base LC g lb own loc mem w ay ev a o ao v u m':=fun hc hr=>by
 simp only[cO,Θ]at hc;split at hc
 ·rename_i off t x' hf hx;split at hc
  ·rename_i n hn;cases hc;simp only[aJ,bA,az]at hr;obtain⟨r,hr,rfl,rfl,rfl⟩:=hr;obtain⟨ad,k1,k2⟩:=V3 (aw _ _ hx) hr;obtain⟨fields,fd,q1,q2,rfl,rfl⟩:=Xl hf;obtain⟨s1,s2,-⟩:=o6 (P:=P) (w:=w) hn;refine .pure hm hl ho ?_ k2;simp only[execOp,Θ,k1,Sem.run_bind,Instr.fieldAt,run_underlying q1,Result.andThen_ok,q2,Instr.sureAddr,Sem.run_pure,fieldPlace,s1];rw[if_neg (by omega)];rfl
  ·cases hc
 ·cases hc
theorem afR(aw:eO g lb ev a)(hm:aZ g own LC mem w)(hl:cj g lb own loc w)(ho:bO base own w){s:TypeId}{x:Operand}{f:Nat}(Θ:o.op= .field s x f)
  :gA P bj base LC g lb own loc mem w ay ev a o ao v u m':=fun hc hr=>by
 simp only[cO,Θ]at hc;split at hc
 ·rename_i off t x' hf hx;split at hc
  ·rename_i n ag hn lv;cases hc;simp only[aJ]at hr;split at hr
   ·rename_i l he;split at hr
    ·rename_i hle;simp only[bA,az]at hr;obtain⟨r,hr,rfl,rfl,rfl⟩:=hr;have k1:=aw _ _ hx;rw[he]at k1;obtain⟨fields,fd,q1,q2,rfl,rfl⟩:=Xl hf;cases bF:a.eval x<;>rw[bF]at k1<;>(try cases k1;done);obtain⟨z,e1,e2⟩:=V5 (P:=P) (w:=w) k1 hle (Je lv) (o6 hn).1 hr;refine .pure hm hl ho ?_ e2;simp only[execOp,Θ,bF,Sem.run_bind,Instr.field,run_underlying q1,Result.andThen_ok,q2,asAgg,Sem.run_pure,e1]
    ·cases hr
   ·cases hr
  ·cases hc
 ·cases hc
end
section
variable{P:Program}{base:Nat}{LC:eS}{g:Gh}{lb:LB}{own:OW}{loc:Nat->Option (Nat×θ)}{mem:Mem}{w:World}{bj:Nat->Bool}{ay:cg}
variable{ev:bh->AV}{a:Act}{o:Oper}{ao:AO}{v:AV}{u:kB}{m':Mem}
theorem uH{k:IntKind}{n:Int}{x:Value}(h:VR g lb (.int k n) x):x= .int k n:=by cases h;rfl
theorem afS(aw:eO g lb ev a)(hm:aZ g own LC mem w)(hl:cj g lb own loc w)(ho:bO base own w){t:TypeId}{x i:Operand}(Θ:o.op= .indexAddr t x i)
  :gA P bj base LC g lb own loc mem w ay ev a o ao v u m':=fun hc hr=>by
 simp only[cO,Θ]at hc;split at hc
 ·rename_i e x' i' hu hx hi;simp only[bA]at hc;obtain⟨sz,aO,rfl⟩:=hc;simp only[aJ]at hr;split at hr
  ·rename_i c l k n e1 e2;split at hr
   ·rename_i hb;split at hr
    ·rename_i el C_;split at hr
     ·rename_i L7;simp only[a_,az]at hr;obtain⟨rfl,rfl,rfl⟩:=hr;have k1:=aw _ _ hx;have k2:=aw _ _ hi;rw[e1]at k1;rw[e2]at k2;obtain⟨s1,s2,-⟩:=o6 (P:=P) (w:=w) aO;have φ:l≠[]:=by rintro rfl;simp at hb;omega
      cases bF:a.eval x<;>rw[bF]at k1<;>(try(cases k1;done));cases k1 with
      |iM=>exact absurd rfl φ
      |h_=>exact absurd rfl φ
      |list _ _ _ b off eN nn cap xs hn dN ew DF cx hv=>
       have ψ:n.toNat<l.length:=by omega
       have L6:l[n.toNat]=el:=by rw[dp ψ]at C_;exact Option.some.inj C_
       have ab6:eN=sz:=by rw[<-DF _ (db ψ),L6,L7]
       subst ab6;refine .pure hm hl ho (x:= .pointer (some ⟨b,off+n.toNat*eN,none⟩)) ?_ ?_
       ·simp only[execOp,Θ,bF,uH k2,Sem.run_bind,Instr.indexAt,asIntOf,Sem.run_pure,Result.andThen_ok,run_underlying hu];rw[if_pos (by rw[<-hn];exact hb)];simp only[Sem.run_bind,s1,Result.andThen_ok,Sem.run_pure,Addr.add_mid]
       ·refine .ref _ _ b (off+n.toNat*eN) (fun j=>xs n.toNat j) (fun j hj=>?_) (fun j hj=>?_)
        ·have:=cx n.toNat (by omega) j (by omega);rwa[uN]
        ·have:=hv n.toNat ψ j (by rw[L6];exact hj);simpa only[L6]using this
     ·cases hr
    ·cases hr
   ·cases hr
  ·rename_i id off m cp k n e1 e2;split at hr
   ·rename_i hb;simp only[a_,az]at hr;obtain⟨rfl,rfl,rfl⟩:=hr;have k1:=aw _ _ hx;have k2:=aw _ _ hi;rw[e1]at k1;rw[e2]at k2;obtain⟨s1,s2,-⟩:=o6 (P:=P) (w:=w) aO;cases bF:a.eval x<;>rw[bF]at k1<;>(try(cases k1;done));cases k1 with
    |sl _ _ _ _ _ _ _ b hc _ aW=>
     refine .pure hm hl ho (x:= .pointer (some ⟨b,off+n.toNat*sz,none⟩)) ?_ (.κ _ _ _ b aW)
     simp only[execOp,Θ,bF,uH k2,Sem.run_bind,Instr.indexAt,asIntOf,Sem.run_pure,Result.andThen_ok,run_underlying hu];rw[if_pos hb];simp only[Sem.run_bind,s1,Result.andThen_ok,Sem.run_pure,Addr.add_mid]
   ·cases hr
  ·cases hr
 ·rename_i len e x' i' hu hx hi;simp only[bA]at hc;obtain⟨sz,aO,rfl⟩:=hc;simp only[aJ]at hr;split at hr
  ·rename_i k n e2;split at hr
   ·rename_i hb;simp only[bA,az]at hr;obtain⟨r,hr,rfl,rfl,rfl⟩:=hr;have k2:=aw _ _ hi;rw[e2]at k2;obtain⟨ad,k1,k3⟩:=V3 (aw _ _ hx) hr;obtain⟨s1,s2,-⟩:=o6 (P:=P) (w:=w) aO;refine .pure hm hl ho ?_ k3;simp only[execOp,Θ,k1,uH k2,Sem.run_bind,Instr.indexAt,asIntOf,Sem.run_pure,Result.andThen_ok,run_underlying hu,Instr.sureAddr];rw[if_pos hb];simp only[Sem.run_bind,s1,Result.andThen_ok,Sem.run_pure]
   ·cases hr
  ·cases hr
 ·cases hc
theorem afU(aw:eO g lb ev a)(hm:aZ g own LC mem w)(hl:cj g lb own loc w)(ho:bO base own w){t:TypeId}{x i:Operand}(Θ:o.op= .index t x i)
  :gA P bj base LC g lb own loc mem w ay ev a o ao v u m':=fun hc hr=>by
 simp only[cO,Θ]at hc;split at hc
 ·rename_i len e x' i' hu hx hi;split at hc
  ·rename_i sz ag aO lv;cases hc;simp only[aJ]at hr;split at hr
   ·rename_i l k n e1 e2;split at hr
    ·rename_i hb;obtain⟨dr,dA,sK⟩:=hb;simp only[bA,az]at hr;obtain⟨r,hr,rfl,rfl,rfl⟩:=hr;have k1:=aw _ _ hx;have k2:=aw _ _ hi;rw[e1]at k1;rw[e2]at k2;obtain⟨s1,s2,-⟩:=o6 (P:=P) (w:=w) aO;cases bF:a.eval x<;>rw[bF]at k1<;>(try(cases k1;done));have hle:n.toNat*sz+sz<=l.length:=by rw[sK];have:(n.toNat+1)*sz<=len*sz:=nu _ (by omega);rw[kA]at this;omega
     obtain⟨z,q1,q2⟩:=V5 (P:=P) (w:=w) k1 hle (Je lv) s1 hr;refine .pure hm hl ho ?_ q2;simp only[execOp,Θ,bF,uH k2,Sem.run_bind,Instr.index,asIntOf,Sem.run_pure,Result.andThen_ok,run_underlying hu];rw[if_pos ⟨dr,dA⟩];simp only[Sem.run_bind,s1,Result.andThen_ok,q1]
    ·cases hr
   ·cases hr
  ·cases hc
 ·rename_i x' i' hu hx hi;cases hc;simp only[aJ]at hr;split at hr
  ·rename_i s k n e1 e2;split at hr
   ·rename_i hb;simp only[bA,az]at hr;obtain⟨r,hr,rfl,rfl,rfl⟩:=hr;have k1:=aw _ _ hx;have k2:=aw _ _ hi;rw[e1]at k1;rw[e2]at k2;cases bF:a.eval x<;>rw[bF]at k1<;>cases k1;rename_i bs fD;obtain⟨c,hgb,oH⟩:∃c:UInt8,bs[n.toNat]?=some c/\c.toNat=r:=by
     rw[<-fD]at hr;simp only[od,bA]at hr;obtain⟨c,hc,rfl⟩:=hr;have ψ:=(fI.1 hc).1;have eZ:n.toNat<bs.size:=by simpa using ψ
     refine⟨c,?_,rfl⟩;have h1:bs[n.toNat]?=some (bs[n.toNat]'eZ):=by simp[getElem?_pos,eZ]
     rw[h1];have h2:bs.data.toList[n.toNat]?=some (bs[n.toNat]'eZ):=by rw[dp ψ];rfl
     rw[h2]at hc;exact hc
    refine .pure hm hl ho (x:= .int .u8 (Int.ofNat r)) ?_ (.int _ _ _);simp only[execOp,Θ,bF,uH k2,Sem.run_bind,Instr.index,asIntOf,Sem.run_pure,Result.andThen_ok,run_underlying hu,if_pos hb,hgb,oH];rfl
   ·cases hr
  ·cases hr
 ·cases hc
theorem xS(aw:eO g lb ev a){x:Option Operand}{x':Option bh}(h:tM x=some x'){top Fv r:Nat}(hb:bound ev top x' Fv=some r):
  (x=none/\r=Fv)\/(∃y k n,x=some y/\a.eval y= .int k n/\0<=n/\n<=top/\r=n.toNat):=by
 cases x with
 |none=>cases h;cases hb;exact .inl ⟨rfl,rfl⟩
 |some y=>
  simp only[tM,bA]at h
  obtain⟨y',hy,rfl⟩:=h;simp only[bound]at hb;split at hb
  ·rename_i k n he;split at hb
   ·rename_i hc;cases hb;have:=aw _ _ hy;rw[he]at this;exact .inr ⟨y,k,n,rfl,uH this,hc.1,hc.2,rfl⟩
   ·cases hb
  ·cases hb
theorem run_sliceBound{k:IntKind}{n:Int}{top:Nat}{code:BoundsCode}(h0:0<=n)(h1:n<=top):(Instr.sliceBound (.int k n) top code).run P w= .ok n.toNat w:=by simp only[Instr.sliceBound,asIntOf,Sem.run_bind,Sem.run_pure,Result.andThen_ok];rw[if_pos ⟨h0,h1⟩];rfl
theorem af7(aw:eO g lb ev a)(hm:aZ g own LC mem w)(hl:cj g lb own loc w)(ho:bO base own w){t:TypeId}{x:Operand}{lo hi mx:Option Operand}(Θ:o.op= .slice t x lo hi mx)
  :gA P bj base LC g lb own loc mem w ay ev a o ao v u m':=fun hc hr=>by
 simp only[cO,Θ]at hc;split at hc
 ·rename_i e x' Vr ae N0 hu hx jJ wM jK;split at hc
  ·cases hc
  ·rename_i Uc;simp only[bA]at hc;obtain⟨sz,aO,rfl⟩:=hc;obtain⟨s1,s2,-⟩:=o6 (P:=P) (w:=w) aO;simp only[aJ]at hr;split at hr
   ·rename_i c l he;split at hr
    ·rename_i jU;simp only[dL,decide_eq_true_eq]at jU;split at hr
     ·rename_i m Hl;split at hr
      ·rename_i h CZ;split at hr
       ·rename_i b ek;simp only[a_,az]at hr;obtain⟨rfl,rfl,rfl⟩:=hr;have k1:=aw _ _ hx;rw[he]at k1;have q1:=xS aw jK Hl;have q2:=xS aw wM CZ;have q3:=xS aw jJ ek;have vj:m<=l.length:=by rcases q1 with⟨_,h⟩|⟨_,_,n,_,_,_,h,h'⟩<;>omega
        have hhm:h<=m:=by
         rcases q2 with⟨hh,h⟩|⟨_,_,n,_,_,_,h,h'⟩
         ·rcases q1 with⟨_,h1⟩|⟨y,_,_,hy,_⟩
          ·omega
          ·exfalso;subst hh;subst hy;simp only[tM,bA]at jK wM;obtain⟨_,_,rfl⟩:=jK;cases wM;exact Uc rfl
         ·omega
        have Tp:b<=h:=by rcases q3 with⟨_,h⟩|⟨_,_,n,_,_,_,h,h'⟩<;>omega
        obtain⟨A,cap,bF,dN,aa4,abi⟩:∃A cap,a.eval x= .slice A l.length cap/\l.length<=cap/\(c= .full->cap=l.length)∧
          (l=[]\/∃bb oo vs,A=some ⟨bb,oo,none⟩/\FR g bP sz l vs/\∀q v,vs[q]?=some v->g.im bb (oo+q)=some v):=by
         by_cases hle:l=[]
         ·subst hle;generalize a.eval x=xv at k1;cases k1 with
          |iM=>exact⟨none,0,rfl,b_ _,fun _=>rfl,.inl rfl⟩
          |h_ _ _ ad cap hc=>
           refine⟨_,cap,rfl,vY _,fun h=>?_,.inl rfl⟩
           rcases hc with hc|⟨_,hc⟩
           ·rw[hc]at h;cases h
           ·exact hc
          |list _ _ _ bb oo eN nn cap xs hn dN ew=>simp at hn;subst hn;exact⟨_,cap,rfl,dN,fun h=>(by subst h;exact ew),.inl rfl⟩
         ·obtain⟨bb,oo,cap,vs,f1,f2,f3,f4,f5⟩:=k1.flat jU hle;exact⟨_,cap,f1,f2,fun h=>(by subst h;exact f3),.inr ⟨bb,oo,vs,rfl,f4,f5⟩⟩
        have aa0:∃M,(Instr.sliceBounds true l.length cap (lo.map a.eval) (hi.map a.eval) (mx.map a.eval)).run P w= .ok (b,h,M) w/\h<=M/\(mx.isSome=true->M=m)/\(mx=none->M=cap):=by
         rcases q1 with⟨rfl,MC⟩|⟨ym,km,nm,rfl,UJ,T_,MC,Ua⟩
         ·refine⟨cap,?_,by omega,fun h=>(by cases h),fun _=>rfl⟩;rcases q2 with⟨rfl,nL⟩|⟨yh,kh,nh,rfl,sY,vf,nL,tW⟩
          ·rcases q3 with⟨rfl,dr⟩|⟨yb,kb,nb,rfl,qA,gF,dr,dA⟩
           ·subst dr nL;simp[Instr.sliceBounds]
           ·subst dA nL;simp[Instr.sliceBounds,qA,run_sliceBound gF dr]
          ·have hb:(Instr.sliceBound (.int kh nh) cap .sliceAcap).run P w= .ok nh.toNat w:=run_sliceBound vf (by omega);rcases q3 with⟨rfl,dr⟩|⟨yb,kb,nb,rfl,qA,gF,dr,dA⟩
           ·subst dr tW;simp[Instr.sliceBounds,sY,hb]
           ·subst dA tW;simp[Instr.sliceBounds,sY,qA,hb,run_sliceBound gF dr]
         ·have Tu:(Instr.sliceBound (.int km nm) cap .slice3Acap).run P w= .ok m w:=by rw[Ua];exact run_sliceBound T_ (by omega)
          refine⟨m,?_,hhm,fun _=>rfl,fun h=>(by cases h)⟩;rcases q2 with⟨rfl,nL⟩|⟨yh,kh,nh,rfl,sY,vf,nL,tW⟩
          ·exfalso;simp only[tM,bA]at jK wM;obtain⟨_,_,rfl⟩:=jK;cases wM;exact Uc rfl
          ·have Tr:(Instr.sliceBound (.int kh nh) m .slice3B).run P w= .ok h w:=by rw[tW];exact run_sliceBound vf nL
           rcases q3 with⟨rfl,dr⟩|⟨yb,kb,nb,rfl,qA,gF,dr,dA⟩
           ·subst dr;simp[Instr.sliceBounds,UJ,sY,Tu,Tr]
           ·have:(Instr.sliceBound (.int kb nb) h .slice3C).run P w= .ok b w:=by rw[dA];exact run_sliceBound gF dr
            simp[Instr.sliceBounds,UJ,sY,qA,Tu,Tr,this]
        obtain⟨M,qu,hhM,Hi,CT⟩:=aa0;have dT:(execOp a.eval o).run P w= .ok (.value (.slice (if M=b then A else A.map (·.add (b*sz))) (h-b) (M-b))) w:=by simp only[execOp,Θ,bF,Instr.sliceAt,Instr.slice,Sem.run_bind,run_underlying hu,Result.andThen_ok,qu,s1,Sem.run_pure]
        refine .pure hm hl ho dT ?_;have hlen:((l.take h).drop b).length=h-b:=by simp;omega
        have Hn:∀bb oo,mP g (h-b) bb oo (M-b) (if N0.isSome=true then(if m=h then τ.full else .any)else if c= .full/\h=l.length then .full else .any):=by
         intro bb oo;split
         ·rename_i hs;have sV:mx.isSome=true:=by
           cases mx with
           |none=>cases jK;cases hs
           |some _=>rfl
          split
          ·have:=Hi sV;simp only[mP];omega
          ·trivial
         ·rename_i hs;have sV:mx=none:=by
           cases mx with
           |none=>rfl
           |some _=>simp only[tM,bA]at jK;obtain⟨_,_,rfl⟩:=jK;exact absurd rfl hs
          split
          ·rename_i hf;have:=CT sV;have:=aa4 hf.1;simp only[mP];omega
          ·trivial
        have abL:∀tg,(if N0.isSome=true then(if m=h then τ.full else .any)else if c= .full/\h=l.length then .full else .any)≠ .own tg:=by intro tg;(repeat' split)<;>simp
        have my:∀A',A=some A'->c≠ .nil:=by
         intro A' Lz hc;subst Lz hc;rw[bF]at k1;cases k1 with
         |h_ _ _ ad cap hc=>rcases hc with hc|⟨hc,_⟩<;>cases hc
         |list _ _ _ bb oo eN nn gh xs hn aa2 ew=>exact ew
        rcases abi with rfl|⟨bb,oo,vs,rfl,dH,cx⟩
        ·have gF:b=0:=by simp at vj;omega
         have vf:h=0:=by simp at vj;omega
         subst gF vf;simp only[List.take_nil,List.drop_nil,akn,Nat.sub_zero];have hA:(if M=0 then A else A.map (·.add 0))=A:=by
          split
          ·rfl
          ·cases A<;>simp[Addr.add]
         rw[hA];cases DL:A with
         |none=>
          rw[bF,DL]at k1
          have hMc:M=0:=by
           cases k1 with
           |iM=>
            cases mx with
            |none=>exact CT rfl
            |some _=>have:=Hi rfl;simp at vj;omega
          subst hMc;have aa8:c= .nil:=by cases k1;rfl
          rw[if_pos aa8];exact .iM _
         |some A'=>
          have aa7:=my A' DL
          rw[if_neg aa7];rw[bF,DL]at k1;cases k1 with
          |h_ _ _ ad cap hc=>
           refine .h_ _ _ _ _ ?_
           have hq:=Hn 0 0;have Uj:=abL;generalize(if N0.isSome=true then(if m=0 then τ.full else .any)else if c= .full/\0=([]:List AV).length then .full else .any)=cc at hq Uj⊢;cases cc with
           |any=>exact .inl rfl
           |nil=>exact hq.elim
           |own tg=>exact absurd rfl (Uj tg)
           |full=>exact .inr ⟨rfl,by simpa[mP]using hq⟩
          |list _ _ _ bb oo eN nn gh xs hn aa2 ew=>exact .list _ _ [] bb oo sz 0 _ (fun _ _=>undef) rfl (vY _) (by have:=Hn bb oo;simpa using this) (by simp) (fun i hi=>by omega) (fun i hi=>by simp at hi)
        ·rw[if_neg (my _ rfl)];by_cases Tq:h-b=0
         ·have rG:(l.take h).drop b=[]:=List.eq_nil_of_length_eq_zero (by omega);rw[rG,Tq];have hA:∃o2,(if M=b then some (⟨bb,oo,none⟩:Addr)else(some (⟨bb,oo,none⟩:Addr)).map (·.add (b*sz)))=some ⟨bb,o2,none⟩:=by
           split
           ·exact⟨_,rfl⟩
           ·exact⟨oo+b*sz,by simp[Addr.add_mid]⟩
          obtain⟨o2,hA⟩:=hA;rw[hA];exact .list _ _ [] bb o2 sz 0 _ (fun _ _=>undef) rfl (vY _) (by have:=Hn bb o2;rwa[Tq]at this) (by simp) (fun i hi=>by omega) (fun i hi=>by simp at hi)
         ·have hMb:¬M=b:=by omega
          simp only[if_neg hMb,p8,Addr.add_mid];have abm:FR g bP sz ((l.take h).drop b) ((vs.take (h*sz)).drop (b*sz)):=by
           have HR:=dH.1;have hle:h*sz<=l.length*sz:=nu _ (by omega);have hbz:b*sz<=h*sz:=nu _ Tp;refine⟨?_,fun e he=>dH.2.1 e (qV (tE he)),fun v hv=>dH.2.2.1 v (qV (tE hv)),fun i hi j hj oL=>?_⟩
           ·rw[hlen,Nat.sub_mul];simp;omega
           ·have ae:b+i<l.length:=by rw[hlen]at hi;omega
            have Hr:((l.take h).drop b)[i]=l[b+i]:=by simp
            have dI:j<l[b+i].cells.length:=by rw[<-Hr];exact hj
            have vg:j<sz:=by rw[<-dH.2.1 _ (db ae)];exact dI
            have Mh:b*sz+(i*sz+j)=(b+i)*sz+j:=by rw[kA];omega
            have:=dH.2.2.2 (b+i) ae j dI (by rw[HR];exact DQ ae vg);simp only[xF,BY,Mh];simpa only[Hr]using this
          refine VR.Iz abm hlen (by omega) (Hn _ _) (fun q v hq=>?_);have vn:vs[b*sz+q]?=some v:=by
           rw[aki]at hq;rw[BX]at hq;split at hq
           ·exact hq
           ·cases hq
          have:=cx _ _ vn;rwa[<-uN]at this
       ·cases hr
      ·cases hr
     ·cases hr
    ·cases hr
   ·rename_i kd id off n cap he;split at hr
    ·cases hr
    have abH:mx=none:=by
     cases mx with
     |none=>rfl
     |some _=>simp only[tM,bA]at jK;obtain⟨_,_,h⟩:=jK;cases h
    subst abH;split at hr
    ·rename_i h CZ;split at hr
     ·rename_i b ek;split at hr
      ·rename_i Tv;simp only[a_,az]at hr;obtain⟨rfl,rfl,rfl⟩:=hr;have k1:=aw _ _ hx;rw[he]at k1;have q2:=xS aw wM CZ;have q3:=xS aw jJ ek;obtain⟨bb,gh,bF,hid,dN,ew⟩:∃bb gh,a.eval x= .slice (some ⟨bb,off,none⟩) n gh/\g.mb id=some bb/\n<=cap/\cap<=gh:=by
        generalize a.eval x=xv at k1;cases k1 with
        |sl _ _ _ _ _ _ cq bb mz yw aW=>exact⟨bb,cq,rfl,aW,mz,yw⟩
       have hhn:h<=n:=by rcases q2 with⟨_,h⟩|⟨_,_,n,_,_,_,h,h'⟩<;>omega
       have Tp:b<=h:=by rcases q3 with⟨_,h⟩|⟨_,_,n,_,_,_,h,h'⟩<;>omega
       have qu:(Instr.sliceBounds true n gh (lo.map a.eval) (hi.map a.eval) none).run P w= .ok (b,h,gh) w:=by
        rcases q2 with⟨rfl,nL⟩|⟨yh,kh,nh,rfl,sY,vf,nL,tW⟩
        ·rcases q3 with⟨rfl,dr⟩|⟨yb,kb,nb,rfl,qA,gF,dr,dA⟩
         ·subst dr nL;simp[Instr.sliceBounds]
         ·subst dA nL;simp[Instr.sliceBounds,qA,run_sliceBound gF dr]
        ·have hb:(Instr.sliceBound (.int kh nh) gh .sliceAcap).run P w= .ok nh.toNat w:=run_sliceBound vf (by omega);rcases q3 with⟨rfl,dr⟩|⟨yb,kb,nb,rfl,qA,gF,dr,dA⟩
         ·subst dr tW;simp[Instr.sliceBounds,sY,hb]
         ·subst dA tW;simp[Instr.sliceBounds,sY,qA,hb,run_sliceBound gF dr]
       have hA:(if gh=b then some (⟨bb,off,none⟩:Addr)else(some (⟨bb,off,none⟩:Addr)).map (·.add (b*sz)))=some ⟨bb,off+b*sz,none⟩:=by
        split
        ·have:b=0:=by omega
         subst this;simp
        ·simp[Addr.add_mid]
       have dT:(execOp a.eval o).run P w= .ok (.value (.slice (some ⟨bb,off+b*sz,none⟩) (h-b) (gh-b))) w:=by rw[<-hA];simp only[execOp,Θ,bF,Instr.sliceAt,Instr.slice,Sem.run_bind,run_underlying hu,Result.andThen_ok,akr,qu,s1,Sem.run_pure]
       exact .pure hm hl ho dT (.sl _ _ _ _ _ _ _ _ (by omega) (by omega) hid)
      ·cases hr
     ·cases hr
    ·cases hr
   ·cases hr
 ·rename_i x' Vr ae hu hx jJ wM jK;cases hc;have Uf:mx=none:=by
   cases mx with
   |none=>rfl
   |some _=>simp only[tM,bA]at jK;obtain⟨_,_,h⟩:=jK;cases h
  subst Uf;simp only[aJ]at hr;split at hr
  ·rename_i s he;split at hr
   ·rename_i h CZ;split at hr
    ·rename_i b ek;simp only[a_,az]at hr;obtain⟨rfl,rfl,rfl⟩:=hr;have k1:=aw _ _ hx;rw[he]at k1;have q2:=xS aw wM CZ;have q3:=xS aw jJ ek;cases bF:a.eval x<;>rw[bF]at k1<;>cases k1;rename_i bs fD;have jW:=ED fD;have qu:(Instr.sliceBounds false bs.size bs.size (lo.map a.eval) (hi.map a.eval) none).run P w= .ok (b,h,bs.size) w:=by
      rcases q2 with⟨rfl,nL⟩|⟨yh,kh,nh,rfl,sY,vf,nL,tW⟩
      ·rcases q3 with⟨rfl,dr⟩|⟨yb,kb,nb,rfl,qA,gF,dr,dA⟩
       ·subst dr nL;simp[Instr.sliceBounds,jW]
       ·subst dA nL;simp[Instr.sliceBounds,qA,run_sliceBound gF dr,jW]
      ·rw[<-jW]at nL;have aW:(Instr.sliceBound (.int kh nh) bs.size .sliceAlen).run P w= .ok nh.toNat w:=run_sliceBound vf nL;rcases q3 with⟨rfl,dr⟩|⟨yb,kb,nb,rfl,qA,gF,dr,dA⟩
       ·subst dr tW;simp[Instr.sliceBounds,sY,aW]
       ·subst dA tW;simp[Instr.sliceBounds,sY,qA,aW,run_sliceBound gF dr]
     refine .pure hm hl ho (x:= .string (bs.extract b h)) ?_ (.str _ _ _ ?_)
     ·simp only[execOp,Θ,bF,Instr.sliceAt,Instr.slice,Sem.run_bind,run_underlying hu,Result.andThen_ok,akr,akm,jO,if_false,qu,Sem.run_pure]
     ·rw[<-fD,<-List.map_take,<-List.map_drop];congr 1;simp[ByteArray.data_extract,ako,Pn,BU]
    ·cases hr
   ·cases hr
  ·cases hr
 ·cases hc
theorem afP(aw:eO g lb ev a)(hm:aZ g own LC mem w)(hl:cj g lb own loc w)(ho:bO base own w){x:Operand}{k:Nat}(Θ:o.op= .extract x k)
  :gA P bj base LC g lb own loc mem w ay ev a o ao v u m':=fun hc hr=>by
 simp only[cO,Θ,bA]at hc;obtain⟨x',hx,rfl⟩:=hc;simp only[aJ]at hr;split at hr
 ·rename_i l he;simp only[bA,az]at hr;obtain⟨r,hr,rfl,rfl,rfl⟩:=hr;have k1:=aw _ _ hx;rw[he]at k1;obtain⟨ψ,rfl⟩:=fI.1 hr;obtain⟨xv,bF⟩:∃xv,a.eval x=xv:=⟨_,rfl⟩;rw[bF]at k1;cases k1 with
  |aU _ _ b hs hv=>
   have hk:k<b.size:=by omega
   refine .pure hm hl ho ?_ (hv k ψ hk);simp only[execOp,Θ,bF,Instr.extract,vR hk];rfl
 ·cases hr
theorem afE(hm:aZ g own LC mem w)(hl:cj g lb own loc w)(ho:bO base own w){e:TypeId}(Θ:o.op= .alloc e)
  :gA P bj base LC g lb own loc mem w ay ev a o ao v u m':=fun hc hr=>by
 simp only[cO,Θ]at hc;split at hc
 ·rename_i d z hd hz;obtain⟨zv,i,hi,fX,hU,kI,uf,h0,cI,h1⟩:=zJ (P:=P) (g:=g) (lb:=lb) (w:=w) hz;split at hc
  ·rename_i be ko;cases hc;simp only[aJ,a_,az]at hr;obtain⟨rfl,rfl,rfl⟩:=hr;have hb:O_ P e=some be:=by
    split at ko
    ·exact ko
    ·cases ko
   have yV:zv= .agg #[.pointer none,.slice none 0 0]:=by
    unfold O_ at hb;rw[hi]at hb;simp only[fX]at hb;split at hb
    ·rename_i h2 _;cases h2;rfl
    ·cases hb
   subst yV;exact⟨_,_,.inl (by simp only[execOp,Θ,Instr.alloc,Sem.run_bind,hU,Result.andThen_ok,Sem.run_pure];rfl),afl hm hl ho⟩
  cases hc;simp only[aJ]at hr;refine⟨_,_,.inl ?_,Od (e:=e) hm hl ho (cs:=zv.cells) (by rw[kI,uf]) (fun j hj dI=>by have:=cI.2 j hj (by simpa using dI);rwa[ma]at this)
   (fun j hj=>h1 _ (by simp)) hr⟩
  simp only[execOp,Θ,Instr.alloc,Sem.run_bind,hU,Result.andThen_ok,Sem.run_pure];rfl
 ·cases hc
theorem afI(aw:eO g lb ev a)(hm:aZ g own LC mem w)(hl:cj g lb own loc w)(ho:bO base own w){e:TypeId}{x:Operand}(Θ:o.op= .box e x)
  :gA P bj base LC g lb own loc mem w ay ev a o ao v u m':=fun hc hr=>by
 simp only[cO,Θ]at hc;split at hc
 ·rename_i d n x' hd hn hx;cases hc;simp only[aJ]at hr;split at hr
  ·rename_i hlen;obtain⟨s1,s2,-⟩:=o6 (P:=P) (w:=w) hn;obtain⟨cI,h1⟩:=IU (aw _ _ hx) (by omega);refine⟨_,_,.inl ?_,Od (e:=e) hm hl ho (cs:=(a.eval x).cells) (by simpa using cI.1.symm) (fun j hj dI=>by have:=cI.2 j hj (by simpa using dI);rwa[ma]at this)
    (fun j hj=>h1 _ (by simp)) hr⟩
   simp only[execOp,Θ,Instr.box,Sem.run_bind,Result.andThen_ok,Go.newVar,newRow,run_newObj,Sem.run_pure];rfl
  ·cases hr
 ·cases hc
theorem afV(aw:eO g lb ev a)(hm:aZ g own LC mem w)(hl:cj g lb own loc w)(ho:bO base own w){t:TypeId}{x:Operand}(Θ:o.op= .load t x)
  :gA P bj base LC g lb own loc mem w ay ev a o ao v u m':=fun hc hr=>by
 simp only[cO,Θ]at hc;split at hc
 ·rename_i ag n x' lv hn hx;cases hc;simp only[aJ]at hr;split at hr
  ·rename_i cs nP;simp only[bA,az]at hr;obtain⟨r,hr,rfl,rfl,rfl⟩:=hr;obtain⟨b,off,vs,e1,e2,e3,e4,e5,e6⟩:=Wy hm hl (aw _ _ hx) nP;obtain⟨s1,s2,s3⟩:=o6 (P:=P) (w:=w) hn;have CW:=Je (w:=w) lv;obtain⟨k1,k2⟩:=JJ (a:=vs.toArray) (g:=g) (lb:=lb) ⟨by simp;omega,fun i hi ae=>e5 i hi (by simpa using ae)⟩ (by simpa using e6) hr;have mU:∀j v,vs[j]?=some v->w.cell? ((⟨b,off,none⟩:Addr).add j)=some v:=fun j v hj=>by rw[Addr.add_mid];exact e4 j v hj
   cases ag with
   |true=>
    refine .pure hm hl ho ?_ (k1 rfl)
    have AZ:=run_loadCells_list (P:=P) w ⟨b,off,none⟩ vs mU;simp only[execOp,Θ,e1,Instr.loadAt,Instr.sureAddr,Sem.run_bind,Sem.run_pure,Result.andThen_ok,loadVar,CW,if_true,s1];rw[<-e2];simp only[AZ,Result.andThen_ok]
   |false=>
    obtain⟨z,hz,wY⟩:=k2 rfl
    have A_:vs=[z]:=by simpa using hz
    subst A_;have h0:w.cell? ⟨b,off,none⟩=some z:=by simpa using e4 0 z (by simp)
    refine .pure hm hl ho ?_ wY;simp only[execOp,Θ,e1,Instr.loadAt,Instr.sureAddr,Sem.run_bind,Sem.run_pure,Result.andThen_ok,loadVar,CW,jO,if_false,run_load,h0]
  ·cases hr
 ·cases hc
theorem af9(aw:eO g lb ev a)(hm:aZ g own LC mem w)(hl:cj g lb own loc w)(ho:bO base own w){t:TypeId}{x y:Operand}(Θ:o.op= .store t x y)
  :gA P bj base LC g lb own loc mem w ay ev a o ao v u m':=fun hc hr=>by
 simp only[cO,Θ]at hc;split at hc
 ·rename_i n x' y' hn hx hy;cases hc;simp only[aJ]at hr;split at hr
  ·rename_i hlen;simp only[bA,az,Prod.exists]at hr;obtain⟨u1,m1,hw,rfl,rfl,rfl⟩:=hr;obtain⟨s1,s2,-⟩:=o6 (P:=P) (w:=w) hn;obtain⟨cI,h1⟩:=IU (aw _ _ hy) (by omega);obtain⟨b,off,cur,e,e1,e2,e3,e4⟩:=Pd hm hl ho (aw _ _ hx) cI h1 hw;refine⟨undef,_,.inr ⟨?_,rfl⟩,e4⟩;have aO:(a.eval y).cells.size=n:=by have:=cI.1;simp at this;omega
   have Ω:=run_storeCells_at P b off e (a.eval y).cells.toList 0 cur w e2 (by simpa using e3) h1;simp only[execOp,Θ,e1,Instr.storeAt,Instr.sureAddr,Sem.run_bind,Sem.run_pure,Result.andThen_ok,storeVar,s1,aO];rw[if_neg (by simp)];simp only[Ω,Result.andThen_ok,qX];rfl
  ·cases hr
 ·cases hc
end
section
variable{P:Program}{base:Nat}{LC:eS}{g:Gh}{lb:LB}{own:OW}{loc:Nat->Option (Nat×θ)}{mem:Mem}{w:World}{bj:Nat->Bool}{ay:cg}
variable{ev:bh->AV}{a:Act}{o:Oper}{ao:AO}{v:AV}{u:kB}{m':Mem}
theorem RY(sz:Nat):∀(parts:List (Nat×Operand)) (k:Nat) (xs:List Operand) (cs:Array Value),Fu k parts=some xs->(∀x∈xs,(a.eval x).cells.size=sz)->(k+xs.length)*sz<=cs.size→
  ∃ws:Array Value,Instr.fill (fun i=>some (i*sz,sz)) cs (parts.map fun(i,x)=>(i,a.eval x))=some ws∧
   ws.toList=cs.toList.take (k*sz)++(xs.map fun x=>(a.eval x).cells.toList).flatten++cs.toList.drop ((k+xs.length)*sz)
 |[],k,xs,cs,h,_,_=>by cases h;exact⟨cs,rfl,by simp⟩
 |(i,x)::parts,k,xs,cs,h,hs,hle=>by
  simp only[Fu]at h;split at h
  ·rename_i tY;subst tY;simp only[bA]at h;obtain⟨ys,hy,rfl⟩:=h;have hx:(a.eval x).cells.size=sz:=hs x (by simp);simp only[cN]at hle;have TW:i*sz+sz<=cs.size:=by have:(i+1)*sz<=(i+(ys.length+1))*sz:=nu _ (by omega);rw[kA]at this;omega
   let tw:Array Value:=(a.eval x).cells.zipIdx.foldl (fun cs (c,j)=>cs.setIfInBounds (i*sz+j) c) cs;have DJ:tw.toList=cs.toList.take (i*sz)++(a.eval x).cells.toList++cs.toList.drop (i*sz+sz):=by have h:=La (i*sz) (a.eval x).cells.toList 0 cs (by simp only[vS,hx];omega);simp only[qX,vS,hx]at h;rw[<-h];simp only[tw,<-akp,akq]
   have DF:tw.size=cs.size:=by have:=congrArg List.length DJ;simp[hx]at this;omega
   have My:(i+1+ys.length)*sz<=tw.size:=by
    have:i+1+ys.length=i+(ys.length+1):=by omega
    rw[DF,this];exact hle
   obtain⟨ws,e1,e2⟩:=RY sz parts (i+1) ys tw hy (fun y hy=>hs y (by simp[hy])) My;refine⟨ws,?_,?_⟩
   ·simp only[ax,Instr.fill];rw[if_neg (by simp[hx];omega)];exact e1
   ·rw[e2,DJ];have h1:(i+1)*sz=i*sz+sz:=by rw[kA,Nat.one_mul]
    have h2:(i+1+ys.length)*sz=i*sz+sz+ys.length*sz:=by rw[kA,h1]
    have h3:(i+(ys.length+1))*sz=i*sz+sz+ys.length*sz:=by rw[kA,kA,Nat.one_mul];omega
    have hl:(cs.toList.take (i*sz)++(a.eval x).cells.toList).length=i*sz+sz:=by simp[hx];omega
    rw[h1,h2];simp only[ax,List.flatten_cons,cN,h3];rw[List.take_append_of_le_length (by rw[hl];exact b_ _),fe (by rw[hl];exact b_ _)];rw[List.drop_append,hl,aks (by rw[hl];omega)];simp[bQ]
  ·cases h
theorem FR.flatten{sz:Nat}(h0:0<sz):∀(l:List AV) (m:List Value),PW (VR g lb) l m->(∀e∈l,e.cells.length=sz)->FR g lb sz l (m.map fun x=>x.cells.toList).flatten
 |[],[],_,_=>FR.nil sz
 |[],_::_,h,_=>by have:=h.1;simp at this
 |_::_,[],h,_=>by have:=h.1;simp at this
 |e::l,x::m,h,hs=>by have h1:=FR.one (g:=g) (lb:=lb) (h.2 0 (by simp) (by simp)) (hs e (by simp)) h0;have h2:=FR.flatten h0 l m ⟨by have:=h.1;simpa using this,fun i hi ae=>by have:=h.2 (i+1) (by simpa using hi) (by simpa using ae);simpa using this⟩ (fun e he=>hs e (by simp[he]));have:=h1.append h2;simpa using this
theorem afJ(aw:eO g lb ev a)(hm:aZ g own LC mem w)(hl:cj g lb own loc w)(ho:bO base own w){t:TypeId}{len:Nat}{parts:Array (Nat×Operand)}(Θ:o.op= .buildSlice t len parts)
  :gA P bj base LC g lb own loc mem w ay ev a o ao v u m':=fun hc hr=>by
 simp only[cO,Θ]at hc;split at hc
 ·rename_i e xs hu hd;split at hc
  ·rename_i sz ag z vQ aO lv hz UI;split at hc
   ·rename_i hlen;obtain⟨hlen,ajT⟩:=hlen;cases hc;simp only[aJ]at hr;split at hr
    ·rename_i jU;simp only[a_,az]at hr;obtain⟨rfl,rfl,rfl⟩:=hr;simp only[dL]at jU;obtain⟨s1,h0,s3⟩:=o6 (P:=P) (w:=w) aO;obtain⟨zv,i,hi,fX,hU,kI,uf,Hw,-,-⟩:=zJ (P:=P) (g:=g) (lb:=lb) (w:=w) hz;have aj6:i.size=sz:=by rw[hi]at s3;simpa using s3
     have cI:=FD aw UI;have eA:∀e∈vQ.map ev,e.cells.length=sz:=fun e he=>by obtain⟨x,hx,rfl⟩:=fb.1 he;exact I6 (jU x hx)
     have rN:xs.length=vQ.length:=by have:=cI.1;simp at this;omega
     have TB:∀x∈xs,(a.eval x).cells.size=sz:=fun x hx=>by
      obtain⟨j,hj,rfl⟩:=o_.1 hx;have dI:j<vQ.length:=by omega
      have wY:=cI.2 j (by simpa using dI) (by simpa using hj);simp only[iQ]at wY;have hc:=eA (ev vQ[j]) (fb.2 ⟨_,db dI,rfl⟩);have:=(IU wY (by omega)).1.1;simp at this;omega
     let init:Array Value:=(akt (len*sz)).map (zv.cells[· % zv.cells.size]!);obtain⟨ws,e1,e2⟩:=RY (a:=a) sz parts.toList 0 xs init hd TB (by simp[init,hlen]);have DK:ws.toList=(xs.map fun x=>(a.eval x).cells.toList).flatten:=by rw[e2];have:init.toList.drop ((0+xs.length)*sz)=[]:=aks (by simp[init,hlen]);rw[this];simp
     have dH:FR g bP sz (vQ.map fun x=>mem.ν (ev x)) ws.toList:=by rw[DK];have h1:=(FR.flatten h0 (vQ.map ev) (xs.map a.eval) cI eA).ν hm;simpa[cT,Function.comp_def]using h1
     have oQ:=ah7 (e:=e) hm hl ho dH;have abx:(vQ.map fun x=>mem.ν (ev x)).length=len:=by simp;omega
     rw[abx]at oQ;refine⟨_,_,.inl ?_,oQ⟩;have yG:(parts.map fun(i,x)=>(i,a.eval x)).toList=parts.toList.map fun(i,x)=>(i,a.eval x):=by simp
     by_cases wQ:len*sz=0
     ·have abr:init=(akt (len*sz)).map ((#[]:Array Value)[· % (#[]:Array Value).size]!):=by simp[init,wQ]
      simp only[execOp,Θ,Instr.buildSlice,Sem.run_bind,run_underlying hu,Result.andThen_ok,s1];rw[if_neg (by omega),if_pos wQ];simp only[Sem.run_bind,Sem.run_pure,Result.andThen_ok,yG];rw[<-abr,e1];simp only[newRow,run_newObj,Sem.run_bind,Result.andThen_ok,Sem.run_pure];rfl
     ·simp only[execOp,Θ,Instr.buildSlice,Sem.run_bind,run_underlying hu,Result.andThen_ok,s1];rw[if_neg (by omega),if_neg wQ];simp only[Sem.run_bind,hU,Sem.run_pure,Result.andThen_ok,yG];have ZW:Instr.fill (fun i=>some (i*sz,sz)) ((akt (len*sz)).map (zv.cells[· % zv.cells.size]!)) (parts.toList.map fun(i,x)=>(i,a.eval x))=some ws:=e1;rw[ZW];simp only[newRow,run_newObj,Sem.run_bind,Result.andThen_ok,Sem.run_pure];rfl
    ·cases hr
   ·cases hc
  ·cases hc
 ·cases hc
theorem VT(aw:eO g lb ev a)(hm:aZ g own LC mem w)(hl:cj g lb own loc w)(ho:bO base own w){c:Call}(Θ:o.op= .call c)(hb:c.callee= .builtin .max\/c.callee= .builtin .min)
  :gA P bj base LC g lb own loc mem w ay ev a o ao v u m':=fun hc hr=>by
 have key:∃x y x' y',c.args.toList=[x,y]/\cw x=some x'/\cw y=some y'/\((c.callee= .builtin .max/\ao= .max x' y')\/(c.callee= .builtin .min/\ao= .min x' y')):=by
  rcases hb with hb|hb<;>simp only[cO,Θ,hb]at hc
  all_goals
   split at hc
   ·rename_i x y Nf;split at hc
    ·rename_i x' y' hx hy;cases hc;exact⟨x,y,x',y',Nf,hx,hy,by simp[hb]⟩
    ·cases hc
   ·cases hc
 obtain⟨x,y,x',y',Nf,hx,hy,nH⟩:=key;have iC:(c.args.map a.eval)= #[a.eval x,a.eval y]:=by
  have:(c.args.map a.eval).toList=[a.eval x,a.eval y]:=by simp[Nf]
  rw[<-uL (xs:=c.args.map a.eval),this]
 rcases nH with⟨hb,rfl⟩|⟨hb,rfl⟩
 all_goals
  simp only[aJ]at hr;split at hr
  ·rename_i k p k' q e1 e2;split at hr
   ·rename_i hk;subst hk;simp only[a_,az]at hr;obtain⟨rfl,rfl,rfl⟩:=hr;have k1:=aw _ _ hx;have k2:=aw _ _ hy;rw[e1]at k1;rw[e2]at k2;refine .pure hm hl ho ?_ (.int _ _ _);simp only[execOp,Θ,resolve,hb,iC,uH k1,uH k2,Sem.run_bind,Sem.run_pure,Result.andThen_ok,invoke,builtin,Builtin.max_,Builtin.min_];rfl
   ·cases hr
  ·cases hr
end
section
variable{P:Program}{base:Nat}{LC:eS}{g:Gh}{lb:LB}{own:OW}{loc:Nat->Option (Nat×θ)}{mem:Mem}{w:World}{bj:Nat->Bool}{ay:cg}
variable{ev:bh->AV}{a:Act}{o:Oper}{ao:AO}{v:AV}{u:kB}{m':Mem}
theorem Ir(hm:aZ g own LC mem w){id:Nat}{es:List (AV×AV)}{x:Value}(hx:VR g lb (.map id) x)(hb:mem.ε[id]?=some (.map es)):
  ∃(b:Nat) (dj:Array MapEntry) (clock:Nat),x= .map (some b)/\g.mb id=some b/\own b=some (.m id)/\(∀o,g.im b o=none)/\w.heap[b]?=some (.map dj clock)/\dj.size=es.length∧
   (∀i (h:i<es.length) (h':i<dj.size),VR g bP es[i].1 dj[i].key/\VR g bP es[i].2 dj[i].val)/\∀p∈es,plain p.1=true/\plain p.2=true:=by
 cases hx with
 |map _ _ b h=>
  obtain⟨b',h1,h2,h3,dj,clock,h4,h5,h6,h7⟩:=hm.blk id _ hb
  rw[h]at h1;cases h1;exact⟨b,dj,clock,rfl,h,h2,h3,h4,h5,h6,h7⟩
theorem run_getObj_map{b:Nat}{dj:Array MapEntry}{clock:Nat}(h:w.heap[b]?=some (.map dj clock)):(getObj b).run P w= .ok (.map dj clock) w:=by simp only[getObj,Sem.run,h]
theorem afW(aw:eO g lb ev a)(hm:aZ g own LC mem w)(hl:cj g lb own loc w)(ho:bO base own w){c:Call}(Θ:o.op= .call c)(hb:c.callee= .builtin .len)
  :gA P bj base LC g lb own loc mem w ay ev a o ao v u m':=fun hc hr=>by
 simp only[cO,Θ,hb]at hc;split at hc
 ·rename_i x t iC sX;have nI:(c.args.map a.eval)= #[a.eval x]:=by
   have:(c.args.map a.eval).toList=[a.eval x]:=by simp[iC]
   rw[<-uL (xs:=c.args.map a.eval),this]
  have pN:c.argTypes= #[t]:=by rw[<-uL (xs:=c.argTypes),sX]
  have dT:∀y w',(Builtin.len_ #[t] o.type #[a.eval x]).run P w= .ok y w'->(execOp a.eval o).run P w= .ok (.value y) w':=fun y w' h=>by simp only[execOp,Θ,resolve,hb,nI,pN,Sem.run_bind,Sem.run_pure,Result.andThen_ok,invoke,builtin,h]
  split at hc
  ·rename_i x' hu hx;cases hc;have k1:=aw _ _ hx;obtain⟨xv,bF⟩:∃xv,a.eval x=xv:=⟨_,rfl⟩;rw[bF]at k1;simp only[aJ]at hr;split at hr
   ·rename_i s e1;simp only[a_,az]at hr;obtain⟨rfl,rfl,rfl⟩:=hr;rw[e1]at k1;cases k1 with
    |str _ bs _ fD=>
     refine .pure hm hl ho (dT (.int .i64 bs.size) w ?_) (by rw[ED fD];exact .int _ _ _)
     simp[bF,Builtin.len_,run_underlying hu,goInt]
   ·cases hr
  ·rename_i e x' hu hx;cases hc;have k1:=aw _ _ hx;obtain⟨xv,bF⟩:∃xv,a.eval x=xv:=⟨_,rfl⟩;rw[bF]at k1;simp only[aJ]at hr;split at hr
   ·rename_i c' l e1;simp only[a_,az]at hr;obtain⟨rfl,rfl,rfl⟩:=hr;rw[e1]at k1;have hs:∃A cap,xv= .slice A l.length cap:=by
     cases k1 with
     |iM=>exact⟨_,_,rfl⟩
     |h_=>exact⟨_,_,rfl⟩
     |list _ _ _ b o sz n cap xs hn=>subst hn;exact⟨_,_,rfl⟩
    obtain⟨A,cap,rfl⟩:=hs;refine .pure hm hl ho (dT (.int .i64 l.length) w ?_) (.int _ _ _);simp[bF,Builtin.len_,run_underlying hu,goInt]
   ·rename_i id off n cp e1;simp only[a_,az]at hr;obtain⟨rfl,rfl,rfl⟩:=hr;rw[e1]at k1;cases k1;refine .pure hm hl ho (dT (.int .i64 n) w ?_) (.int _ _ _);simp[bF,Builtin.len_,run_underlying hu,goInt]
   ·cases hr
  ·rename_i k e x' hu hx;cases hc;have k1:=aw _ _ hx;obtain⟨xv,bF⟩:∃xv,a.eval x=xv:=⟨_,rfl⟩;rw[bF]at k1;simp only[aJ]at hr;split at hr
   ·rename_i e1;simp only[a_,az]at hr;obtain⟨rfl,rfl,rfl⟩:=hr;rw[e1]at k1;cases k1;refine .pure hm hl ho (dT (.int .i64 0) w ?_) (.int _ _ _);simp[bF,Builtin.len_,run_underlying hu,goInt]
   ·rename_i id e1;split at hr
    ·rename_i es he;simp only[a_,az]at hr;obtain⟨rfl,rfl,rfl⟩:=hr;rw[e1]at k1;obtain⟨b,dj,clock,rfl,-,-,-,h4,h5,-⟩:=Ir hm k1 he;refine .pure hm hl ho (dT (.int .i64 es.length) w ?_) (.int _ _ _);simp[bF,Builtin.len_,run_underlying hu,goInt,run_getObj_map h4,h5]
    ·cases hr
   ·cases hr
  ·rename_i n e x' hu hx;cases hc;simp only[aJ,a_,az]at hr;obtain⟨rfl,rfl,rfl⟩:=hr;refine .pure hm hl ho (dT (.int .i64 n) w ?_) (.int _ _ _);generalize a.eval x=xv;cases xv<;>simp[Builtin.len_,run_underlying hu,goInt]
  ·cases hc
 ·cases hc
theorem afF(aw:eO g lb ev a)(hm:aZ g own LC mem w)(hl:cj g lb own loc w)(ho:bO base own w){c:Call}(Θ:o.op= .call c)(hb:c.callee= .builtin .append)
  (hc:cO P bj o=some ao) (jV:∀ag sz bytes e x y,ao≠ .appm ag sz bytes e x y) (hr:aJ ev loc mem ay o.dst ao=some (v,u,m')):qY P base LC g lb own loc w a o v u m':=by
 simp only[cO,Θ,hb]at hc;split at hc
 ·rename_i x y t t' iC sX;split at hc
  ·rename_i e x' y' hu hx hy;split at hc
   ·rename_i i ag z hi lv hz;split at hc
    ·rename_i mD;subst mD;by_cases mA:At bj o.dst=true
     ·rw[if_pos mA]at hc;cases hc;exact absurd rfl (jV _ _ _ _ _ _)
     rw[if_neg mA]at hc;cases hc;have nI:(c.args.map a.eval)= #[a.eval x,a.eval y]:=by
      have:(c.args.map a.eval).toList=[a.eval x,a.eval y]:=by simp[iC]
      rw[<-uL (xs:=c.args.map a.eval),this]
     have pN:c.argTypes= #[t,t]:=by rw[<-uL (xs:=c.argTypes),sX]
     simp only[aJ,bA,az,Prod.exists]at hr;obtain⟨r,m1,hr,rfl,rfl,rfl⟩:=hr;obtain⟨zv,i',ae,fX,hU,kI,-,-,-,-⟩:=zJ (P:=P) (g:=g) (lb:=lb) (w:=w) hz;rw[hi]at ae;cases ae;obtain⟨xr,w',h1,h2⟩:=PF (P:=P) (ty:=o.type) hm hl ho (aw _ _ hx) (aw _ _ hy) hu hi fX kI hr;refine⟨xr,w',.inl ?_,h2⟩;simp only[execOp,Θ,resolve,hb,nI,pN,Sem.run_bind,Sem.run_pure,Result.andThen_ok,invoke,builtin,h1]
    ·cases hc
   ·cases hc
  ·cases hc
 ·cases hc
theorem HX{kk:KK}{kt:TypeId}(hk:pO P kt=some kk){k:AV}{kv:Value}(mW:isKey kk k=true)(hv:VR g lb k kv)(em:Bool):
  (Instr.checkKey em 10000 kt kv).run P w= .ok () w/\∃d,P.underlying kt=some d/\∀(k':AV) (xa:Value) (r:Bool),VR g bP k' xa->jM k k'=some r->Instr.sameNow d kv xa=some r:=by
 have dw:∀d,P.underlying kt=some d->(∀ms,d≠ .interface ms)->(∀n e,d≠ .array n e)->(∀fs,d≠ .struct fs)->∀n,(Instr.checkKey em (n+1) kt kv).run P w= .ok () w:=by intro d hu h1 h2 h3 n;simp only[Instr.checkKey,Sem.run_bind,run_underlying hu,Result.andThen_ok];cases d<;>first|rfl|exact absurd rfl (h1 _)|exact absurd rfl (h2 _ _)|exact absurd rfl (h3 _)
 unfold pO at hk;split at hk
 ·rename_i q hu;cases hk;refine⟨dw _ hu (by simp) (by simp) (by simp) 9999,_,hu,fun k' xa r mZ hr=>?_⟩;cases k<;>simp[isKey]at mW;cases hv;cases k'<;>simp[jM]at hr;cases mZ;simp only[Instr.sameNow];obtain⟨eC,rfl⟩:=hr;rw[if_pos eC];rfl
 ·rename_i hu;cases hk;refine⟨dw _ hu (by simp) (by simp) (by simp) 9999,_,hu,fun k' xa r mZ hr=>?_⟩;cases k<;>simp[isKey]at mW;cases hv;rename_i s bs fD;cases k'<;>simp[jM]at hr;cases mZ;rename_i s' lP aa1;simp only[Instr.sameNow];subst hr;rw[beq_toListBytes,O6 fD aa1]
 ·rename_i hu;cases hk;refine⟨dw _ hu (by simp) (by simp) (by simp) 9999,_,hu,fun k' xa r mZ hr=>?_⟩;cases k<;>simp[isKey]at mW;cases hv;cases k'<;>simp[jM]at hr;cases mZ;simp only[Instr.sameNow];subst hr;rfl
 ·cases hk
def posOf(k:AV):List (AV×AV)->Nat->Option (Nat×AV)
 |[],_=>none
 |(k',v)::l,i=>if jM k k'=some true then some (i,v)else posOf k l (i+1)
theorem FI{kv:Value}{d:TypeDesc}{k:AV}(hs:∀(k':AV) (xa:Value) (r:Bool),VR g bP k' xa->jM k k'=some r->Instr.sameNow d kv xa=some r):
  ∀(es:List (AV×AV)) (dj:List MapEntry) (i:Nat),es.length=dj.length->(∀j (h:j<es.length) (h':j<dj.length),VR g bP es[j].1 dj[j].key/\VR g bP es[j].2 dj[j].val)→
  jz k es≠none->((jz k es=some none/\Instr.findNow d kv dj i=some none/\posOf k es i=none)∨
   ∃j v,jz k es=some (some v)/\posOf k es i=some (i+j,v)/\∃(h:j<es.length) (h':j<dj.length),v=es[j].2/\Instr.findNow d kv dj i=some (some (i+j,dj[j].val)))
 |[],[],i,_,_,_=> .inl ⟨rfl,rfl,rfl⟩
 |[],_::_,_,h,_,_=>by simp at h
 |_::_,[],_,h,_,_=>by simp at h
 |(k',v)::es,e::dj,i,hlen,hv,φ=>by
  have h0:=hv 0 (by simp) (by simp);simp only[kz]at h0;simp only[jz]at φ⊢;cases hk:jM k k' with
  |none=>rw[hk]at φ;exact absurd rfl φ
  |some r=>
   rw[hk]at φ
   have lC:=hs _ _ r h0.1 hk;cases r with
   |true=>exact .inr ⟨0,v,rfl,by simp[posOf,hk],by simp,by simp,rfl,by simp[Instr.findNow,lC]⟩
   |false=>
    dsimp only at φ⊢
    have ih:=FI hs es dj (i+1) (by simpa using hlen) (fun j h h'=>by have:=hv (j+1) (by simpa using h) (by simpa using h');simpa using this) φ;rcases ih with⟨h1,h2,h3⟩|⟨j,v',h1,h2,h3,h4,h5,h6⟩
    ·exact .inl ⟨h1,by simp[Instr.findNow,lC,h2],by simp[posOf,hk,h3]⟩
    ·refine .inr ⟨j+1,v',h1,?_,by simpa using h3,by simpa using h4,by simpa using h5,?_⟩
     ·simp only[posOf,hk];rw[if_neg (by simp),h2];simp;omega
     ·simp only[Instr.findNow,lC,h6,List.getElem_cons_succ];simp;omega
theorem zz{kv:Value}{kt:TypeId}{d:TypeDesc}{l:List MapEntry}{r:Option (Nat×Value)}(hu:P.underlying kt=some d)(h:Instr.findNow d kv l 0=some r):(Instr.findKey kt kv l).run P w= .ok r w:=by simp only[Instr.findKey,Sem.run_bind,run_underlying hu,Result.andThen_ok,h,Sem.run_pure]
theorem afX(aw:eO g lb ev a)(hm:aZ g own LC mem w)(hl:cj g lb own loc w)(ho:bO base own w){t:TypeId}{x y:Operand}{ok:Bool}(Θ:o.op= .lookup t x y ok)
  :gA P bj base LC g lb own loc mem w ay ev a o ao v u m':=fun hc hr=>by
 simp only[cO,Θ]at hc;split at hc
 ·rename_i kt e x' y' hu hx hy;split at hc
  ·rename_i z kk hz eC;cases hc;obtain⟨zv,DP,yV⟩:∃zv,(zeroValue e).run P w= .ok zv w/\VR g lb z zv:=by
    unfold Xm at hz;split at hz
    ·rename_i i hi;split at hz
     ·rename_i zv Nn;exact⟨zv,by simp[zeroValue,typeInfo,hi,Nn],JF hz⟩
     ·cases hz
    ·cases hz
   have gz:∀(g:Gh) (x:AV) (y:Value),VR g bP x y->VR g lb x y:=fun g x y h=>h.mono g.eM fun _ _ _ h=>by cases h
   have ML:∀{r:AV} {rv:Value} {b:Bool},VR g lb r rv->VR g lb (if ok then .aU [r,.bool b]else r) (if ok then .tuple #[rv,.bool b]else rv):=fun{r rv b} h=>by
    cases ok
    ·exact h
    ·refine .aU _ _ _ rfl fun i hi ae=>?_
     match i,hi with
     |0,_=>exact h
     |1,_=>exact .bool _ _
   simp only[aJ]at hr;split at hr
   ·rename_i e1;split at hr
    ·rename_i mW;simp only[a_,az]at hr;obtain⟨rfl,rfl,rfl⟩:=hr;obtain⟨dw,d,ue,-⟩:=HX (P:=P) (w:=w) eC mW (aw _ _ hy) true;have k1:=aw _ _ hx;rw[e1]at k1;obtain⟨xv,bF⟩:∃xv,a.eval x=xv:=⟨_,rfl⟩;rw[bF]at k1;cases k1;have ql:(Instr.findKey kt (a.eval y) []).run P w= .ok none w:=zz ue rfl;refine .pure hm hl ho ?_ (ML (b:=false) yV);simp only[execOp,Θ,bF,Instr.lookup,Sem.run_bind,run_underlying hu,Result.andThen_ok,Sem.run_pure];simp only[Array.isEmpty,Array.size_empty,decide_true,dw,Result.andThen_ok,ql,Sem.run_bind,DP,Sem.run_pure]
    ·cases hr
   ·rename_i id e1;split at hr
    ·rename_i es he;split at hr
     ·rename_i mW;simp only[bA]at hr;obtain⟨fr,dH,hr⟩:=hr;have k1:=aw _ _ hx;rw[e1]at k1;obtain⟨xv,bF⟩:∃xv,a.eval x=xv:=⟨_,rfl⟩;rw[bF]at k1;obtain⟨b,dj,clock,rfl,h2,h3,h4,h5,h6,h7,-⟩:=Ir hm k1 he;obtain⟨dw,d,ue,lC⟩:=HX (P:=P) (w:=w) eC mW (aw _ _ hy) dj.isEmpty;have nK:=FI lC es dj.toList 0 (by simpa using h6.symm) (fun j h h'=>by have:=h7 j h (by simpa using h');simpa using this) (by rw[dH];simp);rcases nK with⟨f1,f2,-⟩|⟨j,v',f1,-,f3,f4,f5,f6⟩
      ·rw[dH]at f1;cases f1;simp only[az]at hr;obtain⟨rfl,rfl,rfl⟩:=hr;have ql:(Instr.findKey kt (a.eval y) dj.toList).run P w= .ok none w:=zz ue f2;refine .pure hm hl ho ?_ (ML (b:=false) yV);simp only[execOp,Θ,bF,Instr.lookup,Sem.run_bind,run_underlying hu,Result.andThen_ok,run_getObj_map h5,Sem.run_pure,dw,ql,DP]
      ·rw[dH]at f1;cases f1;simp only[az]at hr;obtain⟨rfl,rfl,rfl⟩:=hr;subst f5;have yT:=(h7 j f3 (by simpa using f4)).2;have ql:(Instr.findKey kt (a.eval y) dj.toList).run P w= .ok (some (0+j,dj.toList[j].val)) w:=zz ue f6;refine .pure hm hl ho ?_ (ML (b:=true) (gz _ _ _ yT));simp only[execOp,Θ,bF,Instr.lookup,Sem.run_bind,run_underlying hu,Result.andThen_ok,run_getObj_map h5,Sem.run_pure,dw,ql,ma]
     ·cases hr
    ·cases hr
   ·cases hr
  ·cases hc
 ·cases hc
theorem VE{k v:AV}:∀(es r:List (AV×AV)) (i:Nat),uj k v es=some r->(jz k es=some none/\posOf k es i=none/\r=es++[(k,v)])∨
  ∃j v',jz k es=some (some v')/\posOf k es i=some (i+j,v')/\(∃h:j<es.length,jM k es[j].1=some true)/\r=es.set j (k,v)
 |[],r,i,h=>by cases h;exact .inl ⟨rfl,rfl,rfl⟩
 |(k',v')::es,r,i,h=>by
  simp only[uj]at h;cases hk:jM k k' with
  |none=>rw[hk]at h;cases h
  |some t=>
   rw[hk]at h
   cases t with
   |true=>cases h;exact .inr ⟨0,v',by simp[jz,hk],by simp[posOf,hk],⟨by simp,hk⟩,rfl⟩
   |false=>
    simp only[bA]at h
    obtain⟨r',h,rfl⟩:=h;rcases VE es r' (i+1) h with⟨h1,h2,rfl⟩|⟨j,v2,h1,h2,⟨h3,fN⟩,rfl⟩
    ·exact .inl ⟨by simp[jz,hk,h1],by simp[posOf,hk,h2],rfl⟩
    ·exact .inr ⟨j+1,v2,by simp[jz,hk,h1],by simp[posOf,hk,h2];omega,⟨by simpa using h3,by simpa using fN⟩,rfl⟩
theorem Vy{k:AV}:∀(es r:List (AV×AV)) (i:Nat),xf k es=some r->(jz k es=some none/\posOf k es i=none/\r=es)∨
  ∃j v',jz k es=some (some v')/\posOf k es i=some (i+j,v')/\j<es.length/\r=es.eraseIdx j
 |[],r,i,h=>by cases h;exact .inl ⟨rfl,rfl,rfl⟩
 |(k',v')::es,r,i,h=>by
  simp only[xf]at h;cases hk:jM k k' with
  |none=>rw[hk]at h;cases h
  |some t=>
   rw[hk]at h
   cases t with
   |true=>cases h;exact .inr ⟨0,v',by simp[jz,hk],by simp[posOf,hk],by simp,rfl⟩
   |false=>
    simp only[bA]at h
    obtain⟨r',h,rfl⟩:=h;rcases Vy es r' (i+1) h with⟨h1,h2,rfl⟩|⟨j,v2,h1,h2,h3,rfl⟩
    ·exact .inl ⟨by simp[jz,hk,h1],by simp[posOf,hk,h2],rfl⟩
    ·exact .inr ⟨j+1,v2,by simp[jz,hk,h1],by simp[posOf,hk,h2];omega,by simpa using h3,rfl⟩
def fF(w:World)(b:Nat)(o:Obj):World:= {w with heap:=w.heap.setIfInBounds b o}
theorem Ez(hm:aZ g own LC mem w)(hl:cj g lb own loc w)(ho:bO base own w){id b:Nat}{x:Obj}{blk:θ}(hb:own b=some (.m id))(hid:id<mem.ε.length)
  (cx:∀o,g.im b o=none) (sR:tA g own LC (fF w b x) id blk):
  gX base LC g lb own loc w .undef none (mem.put id blk true) undef (fF w b x):=by
 have ju:∀b',b'≠b->(fF w b x).heap[b']?=w.heap[b']?:=fun b' φ=>by simp only[fF];rw[Jm (Ne.symm φ)]
 refine⟨g,lb,own,⟨g.eM,by simp[fF],rfl,rfl,rfl,fun b' _ ho=>ju b' (by rintro rfl;rw[hb]at ho;cases ho),fun _ _ h=>h,fun _ _ _ _=>rfl⟩,fun _ _ _ h=>h,.undef _,?_,?_,?_⟩
 ·refine hm.EJ hid g.eM (fun _ h=>h) (fun _ _ _ h=>h) (fun mF b' φ aW=>⟨rfl,ju b' ?_,fun _=>rfl⟩) sR (fun b' o y hy=>?_)
  ·rintro rfl;rw[hb]at aW;cases aW;exact φ rfl
  ·have φ:b'≠b:=by rintro rfl;rw[cx]at hy;cases hy
   rw[p_ (ju b' φ)];exact hm.im _ _ _ hy
 ·exact hl.ba g.eM fun d b' aW=>⟨rfl,ju b' (by rintro rfl;rw[hb]at aW;cases aW),fun _=>rfl⟩
 ·exact⟨fun b' o aW=>by simpa[fF]using ho.ge b' o aW,by simpa[fF]using ho.base⟩
theorem run_setObj_map{b:Nat}{dj:Array MapEntry}{clock:Nat}(h:w.heap[b]?=some (.map dj clock))(x:Obj):(setObj b x).run P w= .ok () (fF w b x):=by simp only[setObj,Sem.run,h];rfl
theorem BD{b:Nat}{y:Obj}(h:w.heap[b]?=some y)(x:Obj):(fF w b x).heap[b]?=some x:=by have ψ:=(zO.1 h).1;simp[fF,ψ]
end
mutual
theorem CE(n:Nat)(k:Bool):∀v:AV,plain v=true->exp n k v=v
 | .undef,_=>rfl
 | .cR,_=>rfl
 | .int _ _,_=>rfl
 | .bool _,_=>rfl
 | .str _,_=>rfl
 | .ig,_=>rfl
 | .ak _ _ _,h=>by simp[plain]at h
 | .κ _ _,h=>by simp[plain]at h
 | .ref _,h=>by simp[plain]at h
 | .list c l,h=>by simp only[plain,dy,BQ,decide_eq_true_eq]at h;obtain⟨rfl|rfl,h⟩:=h<;>simp only[exp,τ.exp,FG n k l h]
 | .sl _ _ _ _ _,h=>by simp[plain]at h
 | .agg l,h=>by simp only[plain]at h;simp only[exp,FG n k l h]
 | .aU l,h=>by simp only[plain]at h;simp only[exp,FG n k l h]
 | .fn (.func f) [] [],_=>rfl
 | .fn (.func f) (_::_) _,h=>by simp[plain]at h
 | .fn (.func f) [] (_::_),h=>by simp[plain]at h
 | .fn (.method _) _ _,h=>by simp[plain]at h
 | .fn (.methodOf _ _) _ _,h=>by simp[plain]at h
 | .fn (.via _ _ _ _) _ _,h=>by simp[plain]at h
 | .fn (.yield _) _ _,h=>by simp[plain]at h
 | .eQ,_=>rfl
 | .iface t v,h=>by simp only[plain]at h;simp only[exp,CE n k v h]
 | .gq,_=>rfl
 | .map _,h=>by simp[plain]at h
 | .fQ,_=>rfl
theorem FG(n:Nat)(k:Bool):∀l:List AV,rY l=true->aX n k l=l
 |[],_=>rfl
 |v::l,h=>by simp only[rY,dy]at h;simp only[aX,CE n k v h.1,FG n k l h.2]
end
mutual
theorem Vs(n:Nat):∀v:AV,plain v=true->lo n v=true
 | .undef,_=>rfl
 | .cR,_=>rfl
 | .int _ _,_=>rfl
 | .bool _,_=>rfl
 | .str _,_=>rfl
 | .ig,_=>rfl
 | .ak _ _ _,h=>by simp[plain]at h
 | .κ _ _,h=>by simp[plain]at h
 | .ref _,h=>by simp[plain]at h
 | .list c l,h=>by simp only[plain,dy,BQ,decide_eq_true_eq]at h;obtain⟨rfl|rfl,h⟩:=h<;>simp only[lo,τ.lo,Il n l h,vT]
 | .sl _ _ _ _ _,h=>by simp[plain]at h
 | .agg l,h=>by simp only[plain]at h;simp only[lo,Il n l h]
 | .aU l,h=>by simp only[plain]at h;simp only[lo,Il n l h]
 | .fn (.func f) [] [],_=>rfl
 | .fn (.func f) (_::_) _,h=>by simp[plain]at h
 | .fn (.func f) [] (_::_),h=>by simp[plain]at h
 | .fn (.method _) _ _,h=>by simp[plain]at h
 | .fn (.methodOf _ _) _ _,h=>by simp[plain]at h
 | .fn (.via _ _ _ _) _ _,h=>by simp[plain]at h
 | .fn (.yield _) _ _,h=>by simp[plain]at h
 | .eQ,_=>rfl
 | .iface t v,h=>by simp only[plain]at h;simp only[lo,Vs n v h]
 | .gq,_=>rfl
 | .map _,h=>by simp[plain]at h
 | .fQ,_=>rfl
theorem Il(n:Nat):∀l:List AV,rY l=true->bn n l=true
 |[],_=>rfl
 |v::l,h=>by simp only[rY,dy]at h;simp only[bn,Vs n v h.1,Il n l h.2,vT]
end
section
variable{P:Program}{base:Nat}{LC:eS}{g:Gh}{lb:LB}{own:OW}{loc:Nat->Option (Nat×θ)}{mem:Mem}{w:World}{bj:Nat->Bool}{ay:cg}
variable{ev:bh->AV}{a:Act}{o:Oper}{ao:AO}{v:AV}{u:kB}{m':Mem}
theorem VR.plain{v:AV}{x:Value}(h:VR g lb v x)(hp:plain v=true):VR g bP v x:=by
 have h1:=VR.exp (lb':=bP) 0 true h;rw[CE 0 true v hp]at h1;have hs:(g.cut 0).sub g:=by
  refine⟨fun _ _ _ h=>h,fun id b hb=>?_,fun t n x hx=>?_⟩
  ·simp[Gh.cut]at hb
  ·simp[Gh.cut]at hx
 exact VR.sub hs h1
theorem ael{kk:KK}{k:AV}{x:Value}(h:VR g lb k x)(hk:isKey kk k=true):VR g bP k x:=by refine h.plain ?_;cases kk<;>cases k<;>simp_all [isKey,Δ.plain]
theorem aiG{lb':LB}{k k':AV}{x x':Value}(h:VR g lb k x)(h':VR g lb' k' x')(he:jM k k'=some true):∀n,Instr.sameBits n x' x=true:=by
 intro n;cases k<;>cases k'<;>simp[jM]at he
 ·cases h;cases h';obtain⟨rfl,rfl⟩:=he;cases n<;>simp[Instr.sameBits]
 ·cases h;cases h';subst he;cases n<;>simp[Instr.sameBits]
 ·cases h;cases h';rename_i b1 h1 b2 h2;subst he;have:b2.data.toList=b1.data.toList:=VF (h2.trans h1.symm);have hb:b2=b1:=by obtain⟨⟨l1⟩⟩:=b1;obtain⟨⟨l2⟩⟩:=b2;simp at this;subst this;rfl
  subst hb;have:(b2==b2)=true:=by rw[beq_toListBytes];simp
  cases n<;>simp[Instr.sameBits,this]
theorem UU{kk:KK}{k:AV}(hk:isKey kk k=true):plain k=true:=by unfold isKey at hk;split at hk<;>first|rfl|(cases hk;done)
theorem VS(aw:eO g lb ev a)(hm:aZ g own LC mem w)(hl:cj g lb own loc w)(ho:bO base own w){t:TypeId}{x y z:Operand}(Θ:o.op= .mapUpdate t x y z)
  :gA P bj base LC g lb own loc mem w ay ev a o ao v u m':=fun hc hr=>by
 simp only[cO,Θ]at hc;split at hc
 ·rename_i kt et x' y' z' hu hx hy hz;simp only[bA]at hc;obtain⟨kk,eC,rfl⟩:=hc;simp only[aJ]at hr;split at hr
  ·rename_i id e1;split at hr
   ·rename_i es he;split at hr
    ·rename_i iY;simp only[dy]at iY;obtain⟨mW,dS⟩:=iY;simp only[bA,az]at hr;obtain⟨eU,L8,rfl,rfl,rfl⟩:=hr;have k1:=aw _ _ hx;rw[e1]at k1;obtain⟨xv,bF⟩:∃xv,a.eval x=xv:=⟨_,rfl⟩;rw[bF]at k1;obtain⟨b,dj,clock,rfl,h2,h3,h4,h5,h6,h7,h8⟩:=Ir hm k1 he;have hid:id<mem.ε.length:=hm.jq id b h2;obtain⟨dw,d,ue,lC⟩:=HX (P:=P) (w:=w) eC mW (aw _ _ hy) false;have TU:=ael (aw _ _ hy) mW;have yV:=(aw _ _ hz).plain dS;have mC:=VE es eU 0 L8;have nK:=FI lC es dj.toList 0 (by simpa using h6.symm) (fun j h h'=>by have:=h7 j h (by simpa using h');simpa using this) (by rcases mC with⟨h,_⟩|⟨_,_,h,_⟩<;>rw[h]<;>simp);rcases mC with⟨f1,f2,rfl⟩|⟨j,v',f1,f2,f3,rfl⟩
     ·have g2:Instr.findNow d (a.eval y) dj.toList 0=some none:=by
       rcases nK with⟨_,g2,_⟩|⟨j,v',g1,_⟩
       ·exact g2
       ·rw[f1]at g1;cases g1
      have ql:(Instr.findKey kt (a.eval y) dj.toList).run P w= .ok none w:=zz ue g2;refine⟨undef,fF w b (.map (dj.push {key:=a.eval y,val:=a.eval z,born:=clock}) (clock+1)),.inr ⟨?_,rfl⟩,Ez hm hl ho h3 hid h4 ?_⟩
      ·simp only[execOp,Θ,bF,Instr.mapUpdate,Sem.run_bind,run_underlying hu,Result.andThen_ok,run_getObj_map h5,dw,ql,run_setObj_map h5];rfl
      ·refine⟨b,h2,h3,h4,_,_,BD h5 _,by simp[h6],fun i hi ae=>?_,fun p hp=>?_⟩;rcases di i es.length with ψ|eH
       ·have eZ:i<dj.size:=by omega
        simp only[xD ψ,aku,eZ,dite_true];exact h7 i ψ eZ
       ·have ja:i=es.length:=by simp at hi;omega
        subst ja;have:¬es.length<dj.size:=by omega
        simp only[xE (b_ _),Nat.sub_self,kz,aku,this,dite_false];exact⟨TU,yV⟩
       ·rcases dQ.1 hp with hp|hp
        ·exact h8 p hp
        ·obtain rfl:p=_:=by simpa using hp
         exact⟨UU mW,dS⟩
     ·obtain⟨hj,vh⟩:=f3;obtain⟨dI,ql⟩:∃dI:j<dj.size,(Instr.findKey kt (a.eval y) dj.toList).run P w= .ok (some (j,dj[j].val)) w:=by
       rcases nK with⟨g1,_⟩|⟨j2,v2,g1,g2,g3,g4,g5,g6⟩
       ·rw[f1]at g1;cases g1
       ·rw[f2]at g2;simp only[a_,az,lN]at g2;obtain⟨rfl,-⟩:=g2;refine⟨by simpa using g4,?_⟩;have:=zz (P:=P) (w:=w) ue g6;simpa using this
      have HM:=aiG (aw _ _ hy) (h7 j hj dI).1 vh 10000;refine⟨undef,fF w b (.map (dj.modify j fun e=> {e with key:=a.eval y,val:=a.eval z}) clock),.inr ⟨?_,rfl⟩,Ez hm hl ho h3 hid h4 ?_⟩
      ·simp only[execOp,Θ,bF,Instr.mapUpdate,Sem.run_bind,run_underlying hu,Result.andThen_ok,run_getObj_map h5,dw,ql,vR dI,p8,Option.getD_some,Instr.keyThatStays,HM,if_true,Sem.run_pure,run_setObj_map h5]
      ·refine⟨b,h2,h3,h4,_,_,BD h5 _,by simp[h6],fun i hi ae=>?_,fun p hp=>?_⟩;have ja:i<es.length:=by simpa using hi
       have Mg:i<dj.size:=by omega
       simp only[List.getElem_set,Array.getElem_modify];by_cases oL:j=i
       ·subst oL;simp only[if_true];exact⟨TU,yV⟩
       ·simp only[oL,if_false];exact h7 i ja Mg
       ·rcases List.mem_or_eq_of_mem_set hp with hp|rfl
        ·exact h8 p hp
        ·exact⟨UU mW,dS⟩
    ·cases hr
   ·cases hr
  ·cases hr
 ·cases hc
theorem VU(hm:aZ g own LC mem w)(hl:cj g lb own loc w)(ho:bO base own w){t:TypeId}(Θ:o.op= .makeMap t none)
  :gA P bj base LC g lb own loc mem w ay ev a o ao v u m':=fun hc hr=>by
 simp only[cO,Θ]at hc;cases hc;simp only[aJ,a_,az]at hr;obtain⟨rfl,rfl,rfl⟩:=hr;let g':Gh:= {g with mb:=fun id=>if id=mem.ε.length then some w.heap.size else g.mb id};have c_:g.sub g':=⟨fun _ _ _ h=>h,fun id b hb=>by
  have:=hm.jq id b hb
  simp only[g'];rw[if_neg (by omega)];exact hb,fun _ _ _ h=>h⟩
 have Ω:=ep.alloc g own w (.map #[] 0) (some (.m mem.ε.length));refine⟨.map (some w.heap.size),w.alloc (.map #[] 0),.inl ?_,g',lb,_,⟨c_,Ω.size,Ω.os,Ω.tape,Ω.output,Ω.ba,Ω.jD,Ω.im⟩,fun _ _ _ h=>h,.map _ _ _ (by simp[g']),?_,?_,ho.alloc _ _⟩
 ·simp only[execOp,Θ,akr,Instr.makeMap,Sem.run_bind,run_newObj,Result.andThen_ok,Sem.run_pure];rfl
 ·refine hm.push (hm.alloc ho _ _) _ _ (fun id b hb=>?_) (fun id hid=>?_) ?_
  ·split at hb
   ·exact .inr (by assumption)
   ·exact .inl hb
  ·exact if_neg (by omega)
  ·exact⟨w.heap.size,by simp,by simp[gL],(show∀o,g.im w.heap.size o=none from w9 hm),#[],0,qi w _,rfl,fun i h=>by simp at h,fun p hp=>by cases hp⟩
 ·exact(hl.alloc ho _ _).ba c_ fun _ _ _=>⟨rfl,rfl,fun _=>rfl⟩
theorem afO(aw:eO g lb ev a)(hm:aZ g own LC mem w)(hl:cj g lb own loc w)(ho:bO base own w){c:Call}(Θ:o.op= .call c)(hb:c.callee= .builtin .delete)
  :gA P bj base LC g lb own loc mem w ay ev a o ao v u m':=fun hc hr=>by
 simp only[cO,Θ,hb]at hc;split at hc
 ·rename_i x y t ts iC sX;split at hc
  ·rename_i kt et x' y' hu hx hy;simp only[bA]at hc;obtain⟨kk,eC,rfl⟩:=hc;have nI:(c.args.map a.eval)= #[a.eval x,a.eval y]:=by
    have:(c.args.map a.eval).toList=[a.eval x,a.eval y]:=by simp[iC]
    rw[<-uL (xs:=c.args.map a.eval),this]
   have pN:c.argTypes[0]?=some t:=by rw[<-Array.getElem?_toList,sX];rfl
   simp only[aJ]at hr;split at hr
   ·rename_i id e1;split at hr
    ·rename_i es he;split at hr
     ·rename_i mW;simp only[bA,az]at hr;obtain⟨eU,L8,rfl,rfl,rfl⟩:=hr;have k1:=aw _ _ hx;rw[e1]at k1;obtain⟨xv,bF⟩:∃xv,a.eval x=xv:=⟨_,rfl⟩;rw[bF]at k1;obtain⟨b,dj,clock,rfl,h2,h3,h4,h5,h6,h7,h8⟩:=Ir hm k1 he;have hid:id<mem.ε.length:=hm.jq id b h2;obtain⟨dw,d,ue,lC⟩:=HX (P:=P) (w:=w) eC mW (aw _ _ hy) dj.isEmpty;have mC:=Vy es eU 0 L8;have nK:=FI lC es dj.toList 0 (by simpa using h6.symm) (fun j h h'=>by have:=h7 j h (by simpa using h');simpa using this) (by rcases mC with⟨h,_⟩|⟨_,_,h,_⟩<;>rw[h]<;>simp);rcases mC with⟨f1,f2,rfl⟩|⟨j,v',f1,f2,hj,rfl⟩
      ·have g2:Instr.findNow d (a.eval y) dj.toList 0=some none:=by
        rcases nK with⟨_,g2,_⟩|⟨j,v',g1,_⟩
        ·exact g2
        ·rw[f1]at g1;cases g1
       have ql:(Instr.findKey kt (a.eval y) dj.toList).run P w= .ok none w:=zz ue g2;refine⟨undef,fF w b (.map dj clock),.inl ?_,Ez hm hl ho h3 hid h4 ⟨b,h2,h3,h4,_,_,BD h5 _,h6,h7,h8⟩⟩;simp only[execOp,Θ,resolve,hb,nI,Sem.run_bind,Sem.run_pure,Result.andThen_ok,invoke,builtin,Builtin.delete_,pN,bF];simp[run_underlying hu,run_getObj_map h5,dw,ql,run_setObj_map h5,undef]
      ·obtain⟨dI,ql⟩:∃dI:j<dj.size,(Instr.findKey kt (a.eval y) dj.toList).run P w= .ok (some (j,dj[j].val)) w:=by
        rcases nK with⟨g1,_⟩|⟨j2,v2,g1,g2,g3,g4,g5,g6⟩
        ·rw[f1]at g1;cases g1
        ·rw[f2]at g2;simp only[a_,az,lN]at g2;obtain⟨rfl,-⟩:=g2;refine⟨by simpa using g4,?_⟩;have:=zz (P:=P) (w:=w) ue g6;simpa using this
       refine⟨undef,fF w b (.map (dj.eraseIdxIfInBounds j) clock),.inl ?_,Ez hm hl ho h3 hid h4 ⟨b,h2,h3,h4,_,_,BD h5 _,?_,fun i hi ae=>?_,fun p hp=>h8 p (List.mem_of_mem_eraseIdx hp)⟩⟩
       ·simp only[execOp,Θ,resolve,hb,nI,Sem.run_bind,Sem.run_pure,Result.andThen_ok,invoke,builtin,Builtin.delete_,pN,bF];simp[run_underlying hu,run_getObj_map h5,dw,ql,run_setObj_map h5,undef]
       ·have e1:(dj.eraseIdxIfInBounds j).size=dj.size-1:=by simp[akv,dI]
        rw[e1,akw hj,h6]
       ·have e1:(dj.eraseIdxIfInBounds j)=dj.eraseIdx j dI:=by simp[akv,dI]
        have ja:i<es.length-1:=by rw[akw hj]at hi;exact hi
        simp only[e1,List.getElem_eraseIdx,Array.getElem_eraseIdx];by_cases oL:i<j
        ·simp only[oL,dite_true];exact h7 i (by omega) (by omega)
        ·simp only[oL,dite_false];exact h7 (i+1) (by omega) (by omega)
     ·cases hr
    ·cases hr
   ·cases hr
  ·cases hc
 ·cases hc
theorem af6(aw:eO g lb ev a)(hm:aZ g own LC mem w)(hl:cj g lb own loc w)(ho:bO base own w){t:TypeId}{x:Operand}(Θ:o.op= .range t x)
  :gA P bj base LC g lb own loc mem w ay ev a o ao v u m':=fun hc hr=>by
 simp only[cO,Θ]at hc;split at hc
 ·rename_i x' hu hx;cases hc;simp only[aJ]at hr;split at hr
  ·rename_i s d e1 e2;simp only[a_,az]at hr;obtain⟨rfl,rfl,rfl⟩:=hr;have k1:=aw _ _ hx;rw[e1]at k1;obtain⟨xv,bF⟩:∃xv,a.eval x=xv:=⟨_,rfl⟩;rw[bF]at k1;cases k1 with
   |str _ bs _ fD=>
    refine⟨.pointer (some ⟨w.heap.size,0,none⟩),w.alloc (.stringIter bs 0),.inl ?_,g,s8 lb d (bJ loc d) w.heap.size,_,.alloc g own w _ (some (.l d)),Ig hl d _,.ak _ _ _ _ _ (by simp[s8]),hm.alloc ho _ _,?_,ho.alloc _ _⟩
    ·simp only[execOp,Θ,bF,Instr.range,Sem.run_bind,run_underlying hu,Result.andThen_ok,Sem.run_pure,run_newObj];rfl
    ·refine hl.new ho d _ _ (fun l' fO=>by cases fO) (fun s' pos h=>?_);cases h;exact⟨w9 hm,bs,rfl,fD⟩
  ·cases hr
 ·cases hc
theorem WM{b:Nat}{bs:ByteArray}{pos:Nat}(h:w.heap[b]?=some (.stringIter bs pos)):(getObj b).run P w= .ok (.stringIter bs pos) w:=by simp only[getObj,Sem.run,h]
theorem aib{b:Nat}{bs:ByteArray}{pos:Nat}(h:w.heap[b]?=some (.stringIter bs pos))(x:Obj):(setObj b x).run P w= .ok () (fF w b x):=by simp only[setObj,Sem.run,h];rfl
theorem YJ{bs:ByteArray}{s:List Nat}(h:bs.data.toList.map UInt8.toNat=s):(⟨(s.map UInt8.ofNat).toArray⟩:ByteArray)=bs:=by subst h;obtain⟨⟨l⟩⟩:=bs;simp[cT,Function.comp_def]
theorem af4(aw:eO g lb ev a)(hm:aZ g own LC mem w)(hl:cj g lb own loc w)(ho:bO base own w){x:Operand}(Θ:o.op= .next x true)
  :gA P bj base LC g lb own loc mem w ay ev a o ao v u m':=fun hc hr=>by
 simp only[cO,Θ,bA]at hc;obtain⟨x',hx,rfl⟩:=hc;simp only[aJ]at hr;split at hr
 ·rename_i d vP e1;split at hr
  ·rename_i v' s pos hd;split at hr
   ·rename_i hv;subst hv;have k1:=aw _ _ hx;rw[e1]at k1;obtain⟨xv,bF⟩:∃xv,a.eval x=xv:=⟨_,rfl⟩;rw[bF]at k1;cases k1 with
    |ak _ _ _ _ b hb=>
     obtain⟨b',aW,dm,cx,bs,fD,hs⟩:=hl.iter d _ s pos hd
     rw[hb]at aW;cases aW;have hlen:=ED hs;split at hr
     ·rename_i jL;simp only[a_,az,YJ hs]at hr;obtain⟨rfl,rfl,rfl⟩:=hr;have ju:∀b',b'≠b->(fF w b (.stringIter bs (pos+(Utf8.decode bs pos).2))).heap[b']?=w.heap[b']?:=fun b' φ=>by simp only[fF];rw[Jm (Ne.symm φ)]
      refine⟨.tuple #[.bool true,.int .i64 pos,.int .i32 (Utf8.decode bs pos).1],fF w b (.stringIter bs (pos+(Utf8.decode bs pos).2)),.inl ?_,g,lb,own,
       ⟨g.eM,by simp[fF],rfl,rfl,rfl,fun b' _ ho=>ju b' (by rintro rfl;rw[dm]at ho;cases ho),fun _ _ h=>h,fun _ _ _ _=>rfl⟩,fun _ _ _ h=>h,?_,?_,?_,?_⟩
      ·simp only[execOp,Θ,bF,Instr.next,Sem.run_bind,WM fD,Result.andThen_ok];rw[if_pos (by rw[hlen];exact jL)];simp only[Sem.run_bind,aib fD,Result.andThen_ok,Sem.run_pure];rfl
      ·refine .aU _ _ _ rfl fun i hi ae=>?_
       match i,hi with
       |0,_=>exact .bool _ _
       |1,_=>exact .int _ _ _
       |2,_=>exact .int _ _ _
      ·refine hm.ba g.eM (fun _ h=>h) (fun _ _ h=>h) (fun id b' aW=>⟨rfl,ju b' ?_,fun _=>rfl⟩) (fun b' o y hy=>?_)
       ·rintro rfl;rw[dm]at aW;cases aW
       ·have φ:b'≠b:=by rintro rfl;rw[cx]at hy;cases hy
        rw[p_ (ju b' φ)];exact hm.im _ _ _ hy
      ·have jr:(fF w b (.stringIter bs (pos+(Utf8.decode bs pos).2))).heap[b]?=some (.stringIter bs (pos+(Utf8.decode bs pos).2)):=BD fD _;refine⟨fun d' i l' kp=>?_,fun d' i s' pos' kp=>?_,fun d' i b' aW=>?_⟩
       ·simp only[nk]at kp;split at kp
        ·cases kp
        ·rename_i g_;obtain⟨b2,q1,q2⟩:=hl.cells d' i l' kp;have φ:b2≠b:=by rintro rfl;have:=q2.1;rw[dm]at this;cases this;exact g_ rfl
         exact⟨b2,q1,q2.ba g.eM (fun _ _ _ h=>h) rfl (ju b2 φ) fun _=>rfl⟩
       ·simp only[nk]at kp;split at kp
        ·rename_i g_;subst g_;cases kp;exact⟨b,hb,dm,cx,bs,jr,hs⟩
        ·rename_i g_;obtain⟨b2,q1,q2,q3,YB,q4,q5⟩:=hl.iter d' i s' pos' kp;have φ:b2≠b:=by rintro rfl;rw[dm]at q2;cases q2;exact g_ rfl
         exact⟨b2,q1,q2,q3,YB,(ju b2 φ).trans q4,q5⟩
       ·obtain⟨v2,JR,q1,q2⟩:=hl.vP d' i b' aW;by_cases g_:d=d'
        ·subst g_;rw[hd]at q1;cases q1;exact⟨_,.iter s (pos+(Utf8.decode bs pos).2),by simp[nk],q2⟩
        ·exact⟨v2,JR,by simp[nk,g_,q1],q2⟩
      ·exact⟨fun b' o aW=>by simpa[fF]using ho.ge b' o aW,by simpa[fF]using ho.base⟩
     ·rename_i jL;simp only[a_,az]at hr;obtain⟨rfl,rfl,rfl⟩:=hr;refine .pure hm hl ho (x:= .tuple #[.bool false]) ?_ (.aU _ _ _ rfl fun i hi ae=>by
       match i,hi with
       |0,_=>exact .bool _ _)
      simp only[execOp,Θ,bF,Instr.next,Sem.run_bind,WM fD,Result.andThen_ok];rw[if_neg (by rw[hlen];exact jL)];rfl
   ·cases hr
  ·cases hr
 ·cases hr
end
end Go.Δ
