import Derived.OrdersIn
import Derived.LoopNIn
import Derived.Deep.MidRow
import Derived.Below
set_option linter.unusedVariables false
set_option linter.unusedSimpArgs false
set_option maxRecDepth 100000
set_option maxHeartbeats 8000000
open Nat renaming min->ahv,le_refl->bF,lt_of_lt_of_le->rF,lt_or_ge->bP,lt_irrefl->ahx,le_of_lt->yR,mul_le_mul_right->rG,add_mul->kM,mul_comm->ahy,zero_add->jz
open Option renaming map_eq_some_iff->bH,isSome_none->Iv
open List renaming map_cons->ay,map_nil->aA,getElem_map->iz,mem_map->jy,length_map->dd,getElem_take->AN,getElem_drop->wW,mem_of_mem_drop->qp,mem_of_mem_take->pa,mem_iff_getElem->qo,range->rC,getElem?_map->uh,getElem?_eq_none->gZ,getElem?_range->ahw,getElem_range->Ir,mem_range->AR,length_append->fu,length_cons->eZ,length_nil->lK,getElem?_append_left->dX,getElem?_append_right->s8,getElem_append_left->AL,getElem_append_right->AM,mem_append->dE,length_set->fj,getElem_mem->cL,getElem?_eq_some_iff->kg,getD_eq_getElem?_getD->kJ,getElem?_eq_getElem->dr,getElem?_toArray->Iq,append_assoc->cj,nil_append->cI
open Bool renaming and_eq_true->jv,false_eq_true->gY
open Go.World renaming cell?->ti
open Option.some renaming injEq->aZ
open Prod.mk renaming injEq->aN
namespace Go.ah
inductive χ
 |nil
 |any
 |full
 |own (t:Nat)
 deriving DecidableEq
inductive AV
 |undef
 |cR
 |int (k:IntKind) (n:Int)
 |bool (b:Bool)
 |str (s:List Nat)
 |iK
 |ae (d v off:Nat)
 |ν (id off:Nat)
 |ref (l:List AV)
 |list (c:χ) (l:List AV)
 |sl (kd id off n cap:Nat)
 |agg (l:List AV)
 |aP (l:List AV)
 |fn (f:Fn) (first cap:List AV)
 |eJ
 |iface (t:TypeId) (v:AV)
 |fY
 |map (id:Nat)
 |fJ
 deriving Inhabited
def AV.cells:AV->List AV
 | .agg l=>l
 | .aP _=>[]
 | .undef=>[]
 |v=>[v]
def AV.one:AV->Bool
 | .agg _=>false
 | .aP _=>false
 | .undef=>false
 |_=>true
mutual
def AV.beq:AV->AV->Bool
 | .undef,.undef=>true
 | .cR,.cR=>true
 | .int k n,.int k' n'=>decide (k=k')&&decide (n=n')
 | .bool b,.bool b'=>b==b'
 | .str s,.str s'=>decide (s=s')
 | .iK,.iK=>true
 | .ae d v o,.ae d' v' o'=>decide (d=d')&&decide (v=v')&&decide (o=o')
 | .ν d o,.ν d' o'=>decide (d=d')&&decide (o=o')
 | .ref l,.ref l'=>AV.gz l l'
 | .list c l,.list c' l'=>decide (c=c')&&AV.gz l l'
 | .sl kd i o n c,.sl kd' i' o' n' c'=>decide (kd=kd')&&decide (i=i')&&decide (o=o')&&decide (n=n')&&decide (c=c')
 | .agg l,.agg l'=>AV.gz l l'
 | .aP l,.aP l'=>AV.gz l l'
 | .fn f a b,.fn f' a' b'=>decide (f=f')&&AV.gz a a'&&AV.gz b b'
 | .eJ,.eJ=>true
 | .iface t v,.iface t' v'=>decide (t=t')&&AV.beq v v'
 | .fY,.fY=>true
 | .map i,.map i'=>decide (i=i')
 | .fJ,.fJ=>true
 |_,_=>false
def AV.gz:List AV->List AV->Bool
 |[],[]=>true
 |a::l,b::l'=>AV.beq a b&&AV.gz l l'
 |_,_=>false
end
def χ.exp(n:Nat)(k:Bool):χ->χ
 | .own t=>if k&&decide (t<n)then .own t else .any
 | .full=>if k then .full else .any
 | .any=> .any
 | .nil=> .nil
def Fn.below(n:Nat):Fn->Bool
 | .func _=>true
 | .yield l=>decide (l<n)
 |_=>false
mutual
def exp(n:Nat)(k:Bool):AV->AV
 | .ae _ _ _=> .cR
 | .ν id off=>if id<n then .ν id off else .cR
 | .ref l=> .ref (bn n k l)
 | .list c l=> .list (c.exp n k) (bn n k l)
 | .sl kd id off m cap=>if id<n then .sl kd id off m cap else .cR
 | .agg l=> .agg (bn n k l)
 | .aP l=> .aP (bn n k l)
 | .fn f a b=>if Fn.below n f then .fn f (bn n k a) (bn n k b)else .cR
 | .iface t v=> .iface t (exp n k v)
 | .map id=>if id<n then .map id else .cR
 |v=>v
def bn(n:Nat)(k:Bool):List AV->List AV
 |[]=>[]
 |v::l=>exp n k v::bn n k l
end
mutual
def φ:AV->AV
 | .ae _ _ _=> .cR
 | .ref l=> .ref (cW l)
 | .list c l=> .list c (cW l)
 | .agg l=> .agg (cW l)
 | .aP l=> .aP (cW l)
 | .fn f a b=> .fn f (cW a) (cW b)
 | .iface t v=> .iface t (φ v)
 |v=>v
def cW:List AV->List AV
 |[]=>[]
 |v::l=>φ v::cW l
end
mutual
def bK(n:Nat)(hp:Nat->Nat->AV)(hs:Nat->Nat->Nat->Nat->AV):AV->AV
 | .ae _ _ _=> .cR
 | .ν id off=>if id<n then .ν id off else hp id off
 | .ref l=> .ref (hU n hp hs l)
 | .list c l=> .list (c.exp n false) (hU n hp hs l)
 | .sl kd id off m cap=>if id<n then .sl kd id off m cap else hs kd id off m
 | .agg l=> .agg (hU n hp hs l)
 | .aP l=> .aP (hU n hp hs l)
 | .fn f a b=>if Fn.below n f then .fn f (hU n hp hs a) (hU n hp hs b)else .cR
 | .iface t v=> .iface t (bK n hp hs v)
 | .map id=>if id<n then .map id else .cR
 |v=>v
def hU(n:Nat)(hp:Nat->Nat->AV)(hs:Nat->Nat->Nat->Nat->AV):List AV->List AV
 |[]=>[]
 |v::l=>bK n hp hs v::hU n hp hs l
end
def chunk(s:Nat):Nat->List AV->List AV
 |0,_=>[]
 |m+1,l=> .agg (l.take s)::chunk s m (l.drop s)
theorem nZ(n:Nat)(hp:Nat->Nat->AV)(hs:Nat->Nat->Nat->Nat->AV)(l:List AV):hU n hp hs l=l.map (bK n hp hs):=by
 induction l with
 |nil=>rfl
 |cons a l ih=>simp[hU,ih]
def χ.lo(n:Nat):χ->Bool
 | .own t=>decide (t<=n)
 |_=>true
mutual
def lo(n:Nat):AV->Bool
 | .ν id _=>decide (id<=n)
 | .ref l=>bp n l
 | .list c l=>c.lo n&&bp n l
 | .sl _ id _ _ _=>decide (id<=n)
 | .agg l=>bp n l
 | .aP l=>bp n l
 | .fn f a b=>Fn.below (n+1) f&&bp n a&&bp n b
 | .iface _ v=>lo n v
 | .map id=>decide (id<=n)
 |_=>true
def bp(n:Nat):List AV->Bool
 |[]=>true
 |v::l=>lo n v&&bp n l
end
mutual
def plain:AV->Bool
 | .undef| .cR| .int _ _| .bool _| .str _| .iK| .eJ| .fY| .fJ=>true
 | .ae _ _ _=>false
 | .ν _ _=>false
 | .ref _=>false
 | .list c l=>(decide (c= .any)||decide (c= .nil))&&rj l
 | .sl _ _ _ _ _=>false
 | .agg l=>rj l
 | .aP l=>rj l
 | .fn (.func _) [] []=>true
 | .fn _ _ _=>false
 | .iface _ v=>plain v
 | .map _=>false
def rj:List AV->Bool
 |[]=>true
 |v::l=>plain v&&rj l
end
theorem fo(n:Nat)(k:Bool)(l:List AV):bn n k l=l.map (exp n k):=by
 induction l with
 |nil=>rfl
 |cons a l ih=>simp[bn,ih]
theorem fO(l:List AV):cW l=l.map φ:=by
 induction l with
 |nil=>rfl
 |cons a l ih=>simp[cW,ih]
theorem nN(n:Nat)(l:List AV):bp n l=l.all (lo n):=by
 induction l with
 |nil=>rfl
 |cons a l ih=>simp[bp,ih]
def ζ:List AV->Nat->AV
 |[],_=> .undef
 |v::_,0=>v
 |_::l,n+1=>ζ l n
def rp:List AV->Nat->AV->List AV
 |[],0,v=>[v]
 |[],n+1,v=> .undef::rp [] n v
 |_::l,0,v=>v::l
 |a::l,n+1,v=>a::rp l n v
theorem gg(l:List AV)(i:Nat)(v:AV)(j:Nat):ζ (rp l i v) j=if i=j then v else ζ l j:=by
 induction i generalizing l j with
 |zero=>cases l<;>cases j<;>simp[rp,ζ]
 |succ i ih=>
  cases l with
  |nil=>cases j with
   |zero=>simp[rp,ζ]
   |succ j=>simp[rp,ζ,ih]
  |cons a l=>cases j with
   |zero=>simp[rp,ζ]
   |succ j=>simp[rp,ζ,ih]
inductive bm
 |t (n:Nat)
 |c (v:AV)
 |g (n:Nat)
 deriving Inhabited
inductive KK
 |int
 |str
 |bool
 deriving DecidableEq,Inhabited
inductive NK
 |ptr
 |slice
 |fn
 |iface
 |map
 deriving DecidableEq,Inhabited
inductive CK
 |int (k:IntKind)
 |same
 |char
 deriving Inhabited
inductive AO
 |bad
 |mv (x:bm)
 |pick (c a b:bm)
 |alloc (qJ:Bool) (zero:List AV)
 |box (qJ:Bool) (n:Nat) (x:bm)
 |build (zero:List AV) (parts:List (Nat×Nat×bm))
 |bU (ag:Bool) (sz:Nat) (xs:List bm)
 |ld (ag:Bool) (n:Nat) (a:bm)
 |st (n:Nat) (a x:bm)
 |m_ (x:bm)
 |bin (op:BinOp) (x y:bm)
 |eqs (neg:Bool) (ks:List KK) (x y:bm)
 |Bx (neg:Bool) (x y:bm)
 |CB (neg:Bool) (k:NK) (x:bm)
 |un (op:UnOp) (x:bm)
 |conv (k:CK) (x:bm)
 |L7 (t:TypeId) (x:bm)
 |i_ (f:Fn) (first cap:List bm)
 |fa (off:Nat) (x:bm)
 |kq (ag:Bool) (off n:Nat) (x:bm)
 |ia (sz:Nat) (x i:bm)
 |qV (len sz:Nat) (x i:bm)
 |Ac (ag:Bool) (len sz:Nat) (x i:bm)
 |kE (x i:bm)
 |lookup (kk:KK) (zero:AV) (ok:Bool) (m k:bm)
 |mapup (kk:KK) (m k v:bm)
 |mkmap
 |yJ (sz:Nat) (x:bm) (lo hi mx:Option bm)
 |o9 (x:bm) (lo hi:Option bm)
 |ext (x:bm) (k:Nat)
 |call (f:bm) (args:List bm)
 |app (ag:Bool) (sz bytes:Nat) (e:TypeId) (x y:bm)
 |len (x:bm)
 |lens (x:bm)
 |CN (x:bm)
 |LU (n:Nat)
 |mkslc (kd:Nat) (zero:List AV) (bytes:Nat) (n c:bm)
 |cpy (sz:Nat) (x y:bm)
 |clr (zero:List AV) (x:bm)
 |del (kk:KK) (m k:bm)
 |max (x y:bm)
 |min (x y:bm)
 |abld (T e:TypeId)
 |qd (x:bm)
 |yw (x:bm)
 deriving Inhabited
structure aT where
 dst:Option Nat
 op:AO
 guard:Option (Nat×Bool)
 deriving Inhabited
inductive AC
 |skip
 |ops (l:List aT)
 |draw (l:List aT) (cf af:List (Nat×Nat))
 |seq (a b:AC)
 |cond (x:bm) (a b:AC)
 |block (id:Nat) (a:AC)
 |loop (a:AC)
 |exit (id:Nat)
 |ret
 |wP (f:bm) (ps:List Nat) (fL body:AC)
 |C3 (ds:List Nat)
 |bad
 deriving Inhabited
inductive LS
 |ready
 |busy
 |done (j:Option Nat)
 deriving DecidableEq,Inhabited
inductive κ
 |cells (l:List AV)
 |iter (s:List Nat) (pos:Nat)
 |dead
 |nu (T e:TypeId) (s:List Nat)
 |map (es:List (AV×AV))
 |front (n sz:Nat) (e:TypeId)
 |loop (env:List AV) (ps:List Nat) (fL body:AC) (st:LS)
 deriving Inhabited
abbrev Loc:=List (Nat×Nat×κ)
def τ:Loc->Nat->Option (Nat×κ)
 |[],_=>none
 |(d,x)::l,d'=>if d=d' then some x else τ l d'
def wz:Loc->Nat->(Nat×κ)->Loc
 |[],d,x=>[(d,x)]
 |(d,x)::l,d',x'=>if d=d' then(d',x')::l else(d,x)::wz l d' x'
theorem fW(l:Loc)(d:Nat)(x:Nat×κ)(d':Nat):τ (wz l d x) d'=if d=d' then some x else τ l d':=by
 induction l with
 |nil=>simp[wz,τ]
 |cons a l ih=>
  obtain⟨e,y⟩:=a
  by_cases h:e=d
  ·subst h;by_cases h':e=d'<;>simp[wz,τ,h']
  ·by_cases h':e=d'
   ·subst h';simp[wz,τ,h,Ne.symm h]
   ·simp[wz,τ,h,h',ih]
structure Mem where
 ε:List κ
 θ:List Nat
 deriving Inhabited
def eV(l:List AV)(off:Nat)(vs:List AV):List AV:=l.take off++vs++l.drop (off+vs.length)
def rd(lk:Nat->Option (Nat×κ))(mem:Mem)(p:AV)(n:Nat):Option (List AV):=
 match p with
 | .ae d v off=>
  match lk d with
  |some (v',.cells l)=>if v'=v/\off+n<=l.length then some ((l.drop off).take n)else none
  |_=>none
 | .ν id off=>
  match mem.ε[id]? with
  |some (.cells l)=>if off+n<=l.length then some ((l.drop off).take n)else none
  |_=>none
 | .ref l=>if n<=l.length then some (l.take n)else none
 |_=>none
abbrev kZ:=Option (Nat×Nat×κ)
def Mem.put(m:Mem)(id:Nat)(b:κ)(ok:Bool):Mem:= {ε:=m.ε.set id b,θ:=if ok then m.θ else id::m.θ}
def Mem.push(m:Mem)(b:κ):Mem:= {m with ε:=m.ε++[b]}
def Mem.φ(_:Mem)(v:AV):AV:=ah.φ v
def wr(lk:Nat->Option (Nat×κ))(mem:Mem)(p:AV)(vs:List AV):Option (kZ×Mem):=
 match p with
 | .ae d v off=>
  match lk d with
  |some (v',.cells l)=>if v'=v/\off+vs.length<=l.length then some (some (d,v,.cells (eV l off vs)),mem)else none
  |_=>none
 | .ν id off=>
  match mem.ε[id]? with
  |some (.cells l)=>if off+vs.length<=l.length then some (none,mem.put id (.cells (eV l off (vs.map mem.φ))) (bp id (vs.map mem.φ)))else none
  |_=>none
 |_=>none
def gH(op:BinOp)(k:IntKind)(a b:Int):Option AV:=
 match op with
 | .add=>some (.int k (k.wrap (a+b)))
 | .sub=>some (.int k (k.wrap (a-b)))
 | .mul=>some (.int k (k.wrap (a*b)))
 | .quo=>if b=0 then none else some (.int k (k.wrap (a.tdiv b)))
 | .rem=>if b=0 then none else some (.int k (a.tmod b))
 | .and=>some (.int k (k.wrap (BitVec.ofInt k.bits a&&&BitVec.ofInt k.bits b).toNat))
 | .or=>some (.int k (k.wrap (BitVec.ofInt k.bits a|||BitVec.ofInt k.bits b).toNat))
 | .xor=>some (.int k (k.wrap (BitVec.ofInt k.bits a^^^BitVec.ofInt k.bits b).toNat))
 | .andNot=>some (.int k (k.wrap (BitVec.ofInt k.bits a&&& ~~~BitVec.ofInt k.bits b).toNat))
 | .eql=>some (.bool (a==b))
 | .neq=>some (.bool (a !=b))
 | .lss=>some (.bool (decide (a<b)))
 | .leq=>some (.bool (decide (a<=b)))
 | .gtr=>some (.bool (decide (a>b)))
 | .geq=>some (.bool (decide (a≥b)))
 |_=>none
def wF:List Nat->List Nat->Bool
 |_,[]=>false
 |[],_::_=>true
 |a::x,b::y=>decide (a<b)||(decide (a=b)&&wF x y)
def bY(op:BinOp)(a b:List Nat):Option AV:=
 match op with
 | .add=>if((a.length+b.length:Nat):Int)>IntKind.i64.max then none else some (.str (a++b))
 | .eql=>some (.bool (decide (a=b)))
 | .neq=>some (.bool (!decide (a=b)))
 | .lss=>some (.bool (wF a b))
 | .leq=>some (.bool (wF a b||decide (a=b)))
 | .gtr=>some (.bool (!(wF a b||decide (a=b))))
 | .geq=>some (.bool (!wF a b))
 |_=>none
def gy(op:BinOp)(x y:AV):Option AV:=
 match x,y with
 | .int k a,.int k' b=>
  match op with
  | .shl=>if b<0 then none else some (.int k (k.wrap (a*2^ahv b.toNat k.bits)))
  | .shr=>if b<0 then none else some (.int k (a.fdiv (2^ahv b.toNat k.bits)))
  |_=>if k=k' then gH op k a b else none
 | .str a,.str b=>bY op a b
 |_,_=>none
def kp:List KK->List AV->List AV->Option Bool
 |[],[],[]=>some true
 | .int::ks,.int k a::l,.int k' b::l'=>if k=k' then(kp ks l l').map (decide (a=b)&&·)else none
 | .str::ks,.str a::l,.str b::l'=>(kp ks l l').map (decide (a=b)&&·)
 | .bool::ks,.bool a::l,.bool b::l'=>(kp ks l l').map ((a==b)&&·)
 |_,_,_=>none
def isNil:NK->AV->Option Bool
 | .ptr,.iK=>some true
 | .ptr,.ae _ _ _=>some false
 | .ptr,.ν _ _=>some false
 | .ptr,.ref _=>some false
 | .slice,.list .nil _=>some true
 | .slice,.list _ _=>some false
 | .slice,.sl _ _ _ _ _=>some false
 | .fn,.eJ=>some true
 | .fn,.fn _ _ _=>some false
 | .iface,.fY=>some true
 | .iface,.iface _ _=>some false
 | .map,.fJ=>some true
 | .map,.map _=>some false
 |_,_=>none
def gI(op:UnOp)(x:AV):Option AV:=
 match op,x with
 | .neg,.int k n=>some (.int k (k.wrap (0-n)))
 | .not,.bool b=>some (.bool !b)
 |_,_=>none
def lf(k:CK)(x:AV):Option AV:=
 match k,x with
 | .int k,.int _ n=>some (.int k (k.wrap n))
 | .same,.str s=>some (.str s)
 | .char,.int _ n=>some (.str ((Utf8.encode n).data.toList.map UInt8.toNat))
 |_,_=>none
def shaped(ag:Bool)(sz:Nat):AV->Bool
 | .agg l=>ag&&decide (l.length=sz)
 |v=>!ag&&v.one&&decide (sz=1)
def single:List AV->Option AV
 |[v]=>some v
 |_=>none
def fK(ag:Bool)(l:List AV):Option AV:=if ag then some (.agg l)else single l
def jj:AV->AV->Option Bool
 | .str a,.str b=>some (decide (a=b))
 | .int k a,.int k' b=>if k=k' then some (decide (a=b))else none
 | .bool a,.bool b=>some (a==b)
 |_,_=>none
def iZ(k:AV):List (AV×AV)->Option (Option AV)
 |[]=>some none
 |(k',v)::l=>match jj k k' with
  |some true=>some (some v)
  |some false=>iZ k l
  |none=>none
def tP(k v:AV):List (AV×AV)->Option (List (AV×AV))
 |[]=>some [(k,v)]
 |(k',v')::l=>match jj k k' with
  |some true=>some ((k,v)::l)
  |some false=>(tP k v l).map ((k',v')::·)
  |none=>none
def wC(k:AV):List (AV×AV)->Option (List (AV×AV))
 |[]=>some []
 |(k',v')::l=>match jj k k' with
  |some true=>some l
  |some false=>(wC k l).map ((k',v')::·)
  |none=>none
def isKey:KK->AV->Bool
 | .str,.str _=>true
 | .int,.int _ _=>true
 | .bool,.bool _=>true
 |_,_=>false
def bound(ev:bm->AV)(top:Nat):Option bm->Nat->Option Nat
 |none,D_=>some D_
 |some x,_=>match ev x with
  | .int _ n=>if 0<=n/\n<=top then some n.toNat else none
  |_=>none
def gE(p:AV)(off:Nat):Option AV:=
 match p with
 | .ae d v o=>some (.ae d v (o+off))
 | .ν id o=>some (.ν id (o+off))
 | .ref l=>if off<=l.length then some (.ref (l.drop off))else none
 |_=>none
def cF(ev:bm->AV):List (Nat×Nat×bm)->List AV->Option (List AV)
 |[],cs=>some cs
 |(off,size,x)::rest,cs=>if(ev x).cells.length=size/\off+size<=cs.length then cF ev rest (eV cs off (ev x).cells)else none
def aR(lk:Nat->Option (Nat×κ))(d:Nat):Nat:=
 match lk d with
 |none=>0
 |some (v,_)=>v+1
def newVar(lk:Nat->Option (Nat×κ))(mem:Mem)(qJ:Bool)(dst:Option Nat)(b:List AV):Option (AV×kZ×Mem):=
 if qJ then some (.ν mem.ε.length 0,none,mem.push (.cells (b.map mem.φ)))
 else match dst with
  |some d=>some (.ae d (aR lk d) 0,some (d,aR lk d,.cells b),mem)
  |none=>none
def ai(bs:List κ)(n:Nat):Nat->AV->AV
 |0=>exp n false
 |k+1=>bK n
   (fun id off=>match bs[id]? with
    |some (.cells l)=> .ref ((l.drop off).map (ai bs n k))
    |_=> .cR)
   (fun kd id off m=>match bs[id]? with
    |some (.cells l)=>if off+m*Nat.max kd 1<=l.length then
      (if kd=0 then(if((l.drop off).take m).all AV.one then .list .any (((l.drop off).take m).map (ai bs n k))else .cR)
      else .list .any (chunk kd m ((l.drop off).map (ai bs n k))))
     else .cR
    |_=> .cR)
def rep:Nat->List AV->List AV
 |0,_=>[]
 |n+1,z=>z++rep n z
def cellsOf(mem:Mem)(sz:Nat):AV->Option (Nat×List AV)
 | .list _ l=>if l.all (fun e=>decide (e.cells.length=sz))then some (l.length,l.flatMap AV.cells)else none
 | .sl _ id off n _=>match mem.ε[id]? with
  |some (.cells l)=>if off+n*sz<=l.length then some (n,(l.drop off).take (n*sz))else none
  |_=>none
 |_=>none
abbrev cx:=AV->List AV->Mem->Option (AV×Mem)
def f_(mem:Mem)(ag:Bool)(sz bytes:Nat)(e:TypeId)(x y:AV):Option (AV×Mem):=
 match x,y with
 | .list c l,.list _ m=>
  if m.all (shaped ag sz)&&l.all (shaped ag sz)&&decide (0<sz)&&decide ((l.length+m.length)*bytes<=140737488355328)&&decide (l.length+m.length<=140737488355328)then
   match c,m with
   |c,[]=>some (.list c l,mem)
   | .full,m=>some (.list (.own mem.ε.length) (l++m.map mem.φ),mem.push (.front (l.length+m.length) sz e))
   | .nil,m=>some (.list (.own mem.ε.length) (l++m.map mem.φ),mem.push (.front (l.length+m.length) sz e))
   | .own t,m=>match mem.ε[t]? with
    |some (.front n eW e')=>if n=l.length/\eW=sz/\e'=e then some (.list (.own t) (l++m.map mem.φ),mem.put t (.front (l.length+m.length) sz e) true)else none
    |_=>none
   | .any,_=>none
  else none
 |_,_=>none
def aC(ev:bm->AV)(lk:Nat->Option (Nat×κ))(mem:Mem)(aF:cx)(dst:Option Nat)(o:AO):Option (AV×kZ×Mem):=
 match o with
 | .bad=>none
 | .mv x=>some (ev x,none,mem)
 | .pick c a b=>match ev c with
  | .bool t=>some (if t then ev a else ev b,none,mem)
  |_=>none
 | .alloc qJ z=>newVar lk mem qJ dst z
 | .abld T e=>some (.ν mem.ε.length 0,none,mem.push (.nu T e []))
 | .box qJ n x=>if(ev x).cells.length=n then newVar lk mem qJ dst (ev x).cells else none
 | .build z parts=>(cF ev parts z).map fun l=>(.agg l,none,mem)
 | .bU ag sz xs=>if xs.all fun x=>shaped ag sz (ev x)then some (.list .full (xs.map fun x=>mem.φ (ev x)),none,mem)else none
 | .ld ag n a=>match rd lk mem (ev a) n with
  |some l=>(fK ag l).map fun v=>(v,none,mem)
  |none=>none
 | .st n a x=>if(ev x).cells.length=n then(wr lk mem (ev a) (ev x).cells).map fun(u,m)=>(.undef,u,m)else none
 | .m_ x=>match ev x with
  | .ae d v o=>some (.ae d v o,none,mem)
  | .ν id o=>some (.ν id o,none,mem)
  | .ref l=>some (.ref l,none,mem)
  | .fn (.func f) a b=>some (.fn (.func f) a b,none,mem)
  | .fn (.yield f) a b=>some (.fn (.yield f) a b,none,mem)
  |_=>none
 | .bin op x y=>(gy op (ev x) (ev y)).map fun v=>(v,none,mem)
 | .eqs neg ks x y=>match ev x,ev y with
  | .agg a,.agg b=>(kp ks a b).map fun t=>(.bool (if neg then !t else t),none,mem)
  |_,_=>none
 | .Bx neg x y=>match ev x,ev y with
  | .bool a,.bool b=>some (.bool (if neg then !(a==b)else a==b),none,mem)
  |_,_=>none
 | .CB neg k x=>(isNil k (ev x)).map fun t=>(.bool (if neg then !t else t),none,mem)
 | .un op x=>(gI op (ev x)).map fun v=>(v,none,mem)
 | .conv k x=>(lf k (ev x)).map fun v=>(v,none,mem)
 | .L7 t x=>some (.iface t (ev x),none,mem)
 | .i_ f a b=>some (.fn f (a.map ev) (b.map ev),none,mem)
 | .fa off x=>(gE (ev x) off).map fun v=>(v,none,mem)
 | .kq ag off n x=>match ev x with
  | .agg l=>if off+n<=l.length then(fK ag ((l.drop off).take n)).map fun v=>(v,none,mem)else none
  |_=>none
 | .ia sz x i=>match ev x,ev i with
  | .list _ l,.int _ n=>if 0<=n/\n<l.length then
    match l[n.toNat]? with
    |some e=>if e.cells.length=sz then some (.ref e.cells,none,mem)else none
    |none=>none
   else none
  | .sl _ id off m _,.int _ n=>if 0<=n/\n<m then some (.ν id (off+n.toNat*sz),none,mem)else none
  |_,_=>none
 | .qV len sz x i=>match ev i with
  | .int _ n=>if 0<=n/\n<len then(gE (ev x) (n.toNat*sz)).map fun v=>(v,none,mem)else none
  |_=>none
 | .Ac ag len sz x i=>match ev x,ev i with
  | .agg l,.int _ n=>if 0<=n/\n<len/\l.length=len*sz then(fK ag ((l.drop (n.toNat*sz)).take sz)).map fun v=>(v,none,mem)else none
  |_,_=>none
 | .kE x i=>match ev x,ev i with
  | .str s,.int _ n=>if 0<=n then(s[n.toNat]?).map fun(b:Nat)=>(AV.int .u8 (Int.ofNat b),none,mem)else none
  |_,_=>none
 | .lookup kk zero ok m k=>match ev m with
  | .fJ=>if isKey kk (ev k)then some (if ok then .aP [zero,.bool false]else zero,none,mem)else none
  | .map id=>match mem.ε[id]? with
   |some (.map es)=>if isKey kk (ev k)then(iZ (ev k) es).map fun r=>match r with
     |some v=>(if ok then .aP [v,.bool true]else v,none,mem)
     |none=>(if ok then .aP [zero,.bool false]else zero,none,mem)
    else none
   |_=>none
  |_=>none
 | .mapup kk m k v=>match ev m with
  | .map id=>match mem.ε[id]? with
   |some (.map es)=>if isKey kk (ev k)&&plain (ev v)then(tP (ev k) (ev v) es).map fun eI=>(.undef,none,mem.put id (.map eI) true)else none
   |_=>none
  |_=>none
 | .mkmap=>some (.map mem.ε.length,none,mem.push (.map []))
 | .yJ sz x lo hi mx=>match ev x with
  | .list c l=>if l.all fun e=>decide (e.cells.length=sz)then
    match bound ev l.length mx l.length with
    |some m=>match bound ev m hi l.length with
     |some h=>match bound ev h lo 0 with
      |some b=>some (.list (if c= .nil then .nil else if mx.isSome then(if m=h then .full else .any)else if c= .full/\h=l.length then .full else .any) ((l.take h).drop b),none,mem)
      |none=>none
     |none=>none
    |none=>none
   else none
  |_=>none
 | .o9 x lo hi=>match ev x with
  | .str s=>match bound ev s.length hi s.length with
   |some h=>match bound ev h lo 0 with
    |some b=>some (.str ((s.take h).drop b),none,mem)
    |none=>none
   |none=>none
  |_=>none
 | .ext x k=>match ev x with
  | .aP l=>(l[k]?).map fun v=>(v,none,mem)
  |_=>none
 | .call f args=>(aF (ev f) (args.map ev) mem).map fun(v,m)=>(v,none,m)
 | .app ag sz bytes e x y=>(f_ mem ag sz bytes e (ev x) (ev y)).map fun(v,m)=>(v,none,m)
 | .len x=>match ev x with
  | .list _ l=>some (.int .i64 l.length,none,mem)
  | .sl _ _ _ n _=>some (.int .i64 n,none,mem)
  |_=>none
 | .mkslc kd z bytes n c=>match ev n,ev c with
  | .int _ n,.int _ c=>if 0<=n/\n<=c/\(bytes:Int)*c<=281474976710656/\c<=9223372036854775807 then
    some (.sl kd mem.ε.length 0 n.toNat c.toNat,none,mem.push (.cells ((rep c.toNat z).map mem.φ)))
   else none
  |_,_=>none
 | .cpy sz x y=>match ev x with
  | .sl _ id off n _=>match cellsOf mem sz (ev y)with
   |some (k,cs)=>(wr (fun _=>none) mem (.ν id off) (cs.take (ahv k n*sz))).map fun(_,m)=>(.int .i64 (ahv k n:Nat),none,m)
   |none=>none
  |_=>none
 | .clr z x=>match ev x with
  | .list _ []=>some (.undef,none,mem)
  | .sl _ id off n _=>if n=0 then some (.undef,none,mem)else(wr (fun _=>none) mem (.ν id off) (rep n z)).map fun(_,m)=>(.undef,none,m)
  |_=>none
 | .lens x=>match ev x with
  | .str s=>some (.int .i64 s.length,none,mem)
  |_=>none
 | .LU n=>some (.int .i64 n,none,mem)
 | .CN x=>match ev x with
  | .fJ=>some (.int .i64 0,none,mem)
  | .map id=>match mem.ε[id]? with
   |some (.map es)=>some (.int .i64 es.length,none,mem)
   |_=>none
  |_=>none
 | .del kk m k=>match ev m with
  | .map id=>match mem.ε[id]? with
   |some (.map es)=>if isKey kk (ev k)then(wC (ev k) es).map fun eI=>(.undef,none,mem.put id (.map eI) true)else none
   |_=>none
  |_=>none
 | .max x y=>match ev x,ev y with
  | .int k a,.int k' b=>if k=k' then some (.int k (if b>a then b else a),none,mem)else none
  |_,_=>none
 | .min x y=>match ev x,ev y with
  | .int k a,.int k' b=>if k=k' then some (.int k (if b<a then b else a),none,mem)else none
  |_,_=>none
 | .qd x=>match ev x,dst with
  | .str s,some d=>some (.ae d (aR lk d) 0,some (d,aR lk d,.iter s 0),mem)
  |_,_=>none
 | .yw x=>match ev x with
  | .ae d v 0=>match lk d with
   |some (v',.iter s pos)=>if v'=v then
     if pos<s.length then
      let r:=Utf8.decode ⟨(s.map UInt8.ofNat).toArray⟩ pos
      some (.aP [.bool true,.int .i64 pos,.int .i32 r.1],some (d,v,.iter s (pos+r.2)),mem)
     else some (.aP [.bool false],none,mem)
    else none
   |_=>none
  |_=>none
inductive Ex
 |normal
 |exit (id:Nat)
 |ret
 deriving DecidableEq,Inhabited
structure St where
 env:List AV
 loc:Loc
 mem:Mem
 deriving Inhabited
def dQ(gl:Nat->AV)(env:List AV):bm->AV
 | .t n=>ζ env n
 | .c v=>v
 | .g n=>gl n
def eX(env:List AV):Option (Nat×Bool)->Option Bool
 |none=>some true
 |some (d,want)=>match ζ env d with
  | .bool b=>some (b==want)
  | .undef=>some false
  |_=>none
def ft(env:List AV):Option Nat->AV->List AV
 |none,_=>env
 |some d,v=>rp env d v
def eL(loc:Loc):kZ->Loc
 |none=>loc
 |some (d,v,b)=>wz loc d (v,b)
def dP(gl:Nat->AV)(aF:cx)(o:aT)(s:St):Option St:=
 match eX s.env o.guard with
 |none=>none
 |some true=>match aC (dQ gl s.env) (τ s.loc) s.mem aF o.dst o.op with
  |some (v,u,m)=>some {env:=ft s.env o.dst v,loc:=eL s.loc u,mem:=m}
  |none=>none
 |some false=>some {s with env:=ft s.env o.dst .undef}
def ed(gl:Nat->AV)(aF:cx):List aT->St->Option St
 |[],s=>some s
 |o::l,s=>match dP gl aF o s with
  |some s'=>ed gl aF l s'
  |none=>none
def dF(gl:Nat->AV)(aF:cx):List aT->St->Option (List St)
 |[],s=>some [s]
 |o::l,s=>match dP gl aF o s with
  |some s'=>(dF gl aF l s').map (s::·)
  |none=>none
def fm:Option (List AV)->Option (List AV)->Bool
 |some a,some b=>AV.gz a b
 |_,_=>false
def dy(l:List aT)(j:Nat):Bool:=match l[j]? with
 |some o=>match o.op with
  | .st _ _ _=>true
  |_=>false
 |none=>false
def dm(gl:Nat->AV)(l:List aT)(tr:List St)(i j:Nat):Bool:=
 match l[i]?,tr[i]?,tr[j]?,tr[j+1]? with
 |some o,some si,some sj,some Dg=>
  match eX si.env o.guard,o.op with
  |some false,_=>true
  |_,.ld _ n a=>match dQ gl si.env a with
   | .ν id off=>fm (rd (fun _=>none) sj.mem (.ν id off) n) (rd (fun _=>none) si.mem (.ν id off) n)&&
     fm (rd (fun _=>none) Dg.mem (.ν id off) n) (rd (fun _=>none) si.mem (.ν id off) n)
   | .ae d v off=>!(dy l j)||fm (rd (τ sj.loc) {ε:=[],θ:=[]} (.ae d v off) n) (rd (τ si.loc) {ε:=[],θ:=[]} (.ae d v off) n)&&
     fm (rd (τ Dg.loc) {ε:=[],θ:=[]} (.ae d v off) n) (rd (τ si.loc) {ε:=[],θ:=[]} (.ae d v off) n)
   |_=>true
  |_,_=>false
 |_,_,_,_=>false
def vC(gl:Nat->AV)(l:List aT)(tr:List St)(i j:Nat):Bool:=
 match l[i]?,l[j]?,tr[j]? with
 |some oi,some o,some sj=>match o.op with
  | .ld _ _ a=>match dQ gl sj.env a with
   | .ae d _ _=>oi.dst !=some d
   |_=>true
  |_=>false
 |_,_,_=>false
def ek(gl:Nat->AV)(aF:cx)(l:List aT)(cf af:List (Nat×Nat))(s:St):Option St:=
 match dF gl aF l s with
 |some tr=>if cf.all (fun p=>dm gl l tr p.1 p.2)&&af.all (fun p=>vC gl l tr p.1 p.2)then tr.getLast? else none
 |none=>none
abbrev oC:=(St->Option (Ex×St))->St->Option (Ex×St)
def κ.Aq(n:Nat):κ->κ
 | .cells l=> .cells (l.map (exp n true))
 |b=>b
def κ.clean(id:Nat):κ->Bool
 | .cells l=>bp id l
 |_=>true
def lJ(n:Nat):List Nat->List κ->List κ
 |[],bs=>bs
 |i::l,bs=>lJ n l (match bs[i]? with
  |some b=>bs.set i (b.Aq n)
  |none=>bs)
def Mem.back(m0 m:Mem):Mem:=
 let n:=m0.ε.length
 let bs:=lJ n m.θ (m.ε.take n)
 {ε:=bs,θ:=m0.θ++m.θ.filter fun i=>match bs[i]? with
   |some b=>!b.clean i
   |none=>false}
def AV.CA:AV->Option AV
 | .fn (.func f) a b=>some (.fn (.func f) a b)
 |_=>none
def C4(d:Nat)(s:St):Option St:=
 match ζ s.env d with
 | .ae d' v 0=>match τ s.loc d with
  |some (v',.cells l)=>if d'=d/\v'=v then
    some {env:=rp s.env d (.ν s.mem.ε.length 0),loc:=wz s.loc d (v,.dead),mem:=s.mem.push (.cells (l.map s.mem.φ))}else none
  |_=>none
 |_=>none
def An:List Nat->St->Option St
 |[],s=>some s
 |d::l,s=>match C4 d s with
  |some s'=>An l s'
  |none=>none
def exec(gl:Nat->AV)(aF:cx)(lp:oC):AC->St->Option (Ex×St)
 | .skip,s=>some (.normal,s)
 | .ops l,s=>(ed gl aF l s).map fun s'=>(.normal,s')
 | .draw l cf af,s=>(ek gl aF l cf af s).map fun s'=>(.normal,s')
 | .seq a b,s=>match exec gl aF lp a s with
  |some (.normal,s')=>exec gl aF lp b s'
  |r=>r
 | .cond x a b,s=>match dQ gl s.env x with
  | .bool t=>if t then exec gl aF lp a s else exec gl aF lp b s
  |_=>none
 | .block id a,s=>match exec gl aF lp a s with
  |some (.exit i,s')=>if i=id then some (.normal,s')else some (.exit i,s')
  |r=>r
 | .loop a,s=>lp (exec gl aF lp a) s
 | .exit id,s=>some (.exit id,s)
 | .ret,s=>some (.ret,s)
 | .wP f ps fL body,s=>
  match(dQ gl s.env f).CA.bind fun f=>aF f [.fn (.yield s.mem.ε.length) [] []] {ε:=s.mem.ε++[.loop (s.env.map s.mem.φ) ps fL body .ready],θ:=[]}with
  |some (_,m)=>match m.ε[s.mem.ε.length]? with
   |some (.loop _ _ _ _ .ready)=>some (.normal,{s with mem:=s.mem.back m})
   |some (.loop _ _ _ _ (.done none))=>some (.ret,{s with mem:=s.mem.back m})
   |some (.loop _ _ _ _ (.done (some i)))=>some (.exit i,{s with mem:=s.mem.back m})
   |_=>none
  |none=>none
 | .C3 ds,s=>(An ds s).map fun s'=>(.normal,s')
 | .bad,_=>none
def fD:Nat->oC
 |0,_,_=>none
 |n+1,body,s=>match body s with
  |some (.normal,s')=>fD n body s'
  |r=>r
inductive RV
 |tmp (t:Nat)
 |cell (a:Nat) (ag:Bool) (n:Nat)
 deriving Inhabited
structure AF where
 ntmps:Nat
 results:List RV
 code:AC
 deriving Inhabited
abbrev Prim:=List AV->Mem->Option (AV×Mem)
structure iM where
 gl:Nat->AV
 fs:Nat->Option AF
 jm:Nat->Option Prim
 bw:Nat->Bool
def RV.get(s:St):RV->Option AV
 | .tmp t=>some (ζ s.env t)
 | .cell a ag n=>match rd (τ s.loc) s.mem (ζ s.env a) n with
  |some l=>fK ag l
  |none=>none
def aY(s:St):List RV->Option (List AV)
 |[]=>some []
 |r::l=>match r.get s with
  |some v=>(aY s l).map (v::·)
  |none=>none
def aV:List AV->AV
 |[v]=>v
 |l=> .aP l
def fin(g:AF)(bw:Bool)(m0:Mem):Option (Ex×St)->Option (AV×Mem)
 |some (.exit _,_)=>none
 |some (_,s)=>match aY s g.results with
  |some l=>if bw then some (exp s.mem.ε.length true (aV l),{ε:=s.mem.ε,θ:=m0.θ++s.mem.θ})
    else some (ai s.mem.ε m0.ε.length 8 (aV l),m0.back s.mem)
  |none=>none
 |none=>none
def va:List AV->List Nat->List AV->List AV
 |env,[],_=>env
 |env,_,[]=>env
 |env,p::ps,v::vs=>va (rp env p v) ps vs
def Mem.kH(m:Mem)(l:Nat)(st:LS):Mem:=
 match m.ε[l]? with
 |some (.loop env ps fL body _)=> {m with ε:=m.ε.set l (.loop env ps fL body st)}
 |_=>m
def Mem.ls(m:Mem)(l:Nat):Option LS:=
 match m.ε[l]? with
 |some (.loop _ _ _ _ st)=>some st
 |_=>none
def round(ex:AC->St->Option (Ex×St))(l:Nat)(args:List AV)(mem:Mem):Option (AV×Mem):=
 match mem.ε[l]? with
 |some (.loop env ps fL body _)=>
  if ps.length=args.length then
   match ex fL {env:=va env ps (args.map (exp mem.ε.length false)),loc:=[],mem:=mem}with
   |some (.normal,s1)=>
    if s1.mem.ls l=some .ready then
     match ex body {s1 with mem:=s1.mem.kH l .busy}with
     |some (.normal,s2)=>if s2.mem.ls l=some .busy then some (.bool true,s2.mem.kH l .ready)else none
     |some (.ret,s2)=>if s2.mem.ls l=some .busy then some (.bool false,s2.mem.kH l (.done none))else none
     |some (.exit i,s2)=>if s2.mem.ls l=some .busy then some (.bool false,s2.mem.kH l (.done (some i)))else none
     |none=>none
    else none
   |_=>none
  else none
 |_=>none
def body(C:iM)(aF:cx)(lp:oC):cx:=fun fv args mem=>
 match fv with
 | .fn (.func f) first cap=>
  match C.jm f with
  |some p=>p ((first++args++cap).map (exp mem.ε.length (C.bw f))) mem
  |none=>match C.fs f with
   |some g=>fin g (C.bw f) mem (exec C.gl aF lp g.code
     {env:=(first++args++cap).map (exp mem.ε.length (C.bw f)),loc:=[],mem:= {ε:=mem.ε,θ:=[]}})
   |none=>none
 | .fn (.yield l) [] []=>round (exec C.gl aF lp) l args mem
 |_=>none
def cv(C:iM):Nat->cx
 |0=>fun _ _ _=>none
 |n+1=>body C (cv C n) (fD n)
def cx.le(c c':cx):Prop:=∀fv args mem r,c fv args mem=some r->c' fv args mem=some r
def oC.le(l l':oC):Prop:=∀b b':St->Option (Ex×St),(∀s r,b s=some r->b' s=some r)->∀s r,l b s=some r->l' b' s=some r
theorem U6{ev lk mem dst o r}{c c':cx}(h:c.le c')(hr:aC ev lk mem c dst o=some r):aC ev lk mem c' dst o=some r:=by
 cases o<;>try exact hr
 case call f args=>
  simp only[aC,bH]at hr⊢
  obtain⟨x,hx,rfl⟩:=hr;exact⟨x,h _ _ _ _ hx,rfl⟩
theorem DK{gl o s r}{c c':cx}(h:c.le c')(hr:dP gl c o s=some r):dP gl c' o s=some r:=by
 unfold dP at hr⊢;split at hr
 ·cases hr
 ·split at hr
  ·rename_i he;rw[U6 h he];exact hr
  ·cases hr
 ·exact hr
theorem Nt{gl l s r}{c c':cx}(h:c.le c')(hr:ed gl c l s=some r):ed gl c' l s=some r:=by
 induction l generalizing s with
 |nil=>exact hr
 |cons o l ih=>
  simp only[ed]at hr⊢
  split at hr
  ·rename_i he;rw[DK h he];exact ih hr
  ·cases hr
theorem Nz{gl l s r}{c c':cx}(h:c.le c')(hr:dF gl c l s=some r):dF gl c' l s=some r:=by
 induction l generalizing s r with
 |nil=>exact hr
 |cons o l ih=>
  simp only[dF]at hr⊢
  split at hr
  ·rename_i he;rw[DK h he];simp only[bH]at hr⊢;obtain⟨x,hx,rfl⟩:=hr;exact⟨x,ih hx,rfl⟩
  ·cases hr
theorem UP{gl l cf af s r}{c c':cx}(h:c.le c')(hr:ek gl c l cf af s=some r):ek gl c' l cf af s=some r:=by
 unfold ek at hr⊢;split at hr
 ·rename_i he;rw[Nz h he];exact hr
 ·cases hr
theorem Js{gl}{c c':cx}{l l':oC}(h:c.le c')(hl:l.le l')(a:AC):∀s r,exec gl c l a s=some r->exec gl c' l' a s=some r:=by
 induction a with
 |skip=>intro s r hr;exact hr
 |ops x=>
  intro s r hr
  simp only[exec,bH]at hr⊢;obtain⟨x,hx,rfl⟩:=hr;exact⟨x,Nt h hx,rfl⟩
 |draw x cf af=>
  intro s r hr
  simp only[exec,bH]at hr⊢;obtain⟨x,hx,rfl⟩:=hr;exact⟨x,UP h hx,rfl⟩
 |seq a b fV mF=>
  intro s r hr
  simp only[exec]at hr⊢;split at hr
  ·rename_i he;rw[fV _ _ he];exact mF _ _ hr
  ·rename_i ak;rw[fV _ _ hr];split
   ·rename_i he;rw[he]at hr;exact absurd hr (ak _)
   ·rfl
 |cond x a b fV mF=>
  intro s r hr
  simp only[exec]at hr⊢;split at hr
  ·split at hr
   ·rename_i he ht;simp only[ht,if_true];exact fV _ _ hr
   ·rename_i he ht;simp only[ht];exact mF _ _ hr
  ·cases hr
 |block id a fV=>
  intro s r hr
  simp only[exec]at hr⊢;split at hr
  ·rename_i he;rw[fV _ _ he];exact hr
  ·rename_i ak;rw[fV _ _ hr];split
   ·rename_i he;rw[he]at hr;exact absurd hr (ak _ _)
   ·rfl
 |loop a fV=>
  intro s r hr
  simp only[exec]at hr⊢;exact hl _ _ fV _ _ hr
 |exit id=>intro s r hr;exact hr
 |ret=>intro s r hr;exact hr
 |wP f ps fL body _ _=>
  intro s r hr
  simp only[exec]at hr⊢;split at hr
  ·rename_i he;obtain⟨fv,h1,h2⟩:=Option.bind_eq_some_iff.1 he;rw[h1];simp only[Option.bind_some,h _ _ _ _ h2];exact hr
  ·cases hr
 |C3 ds=>intro s r hr;exact hr
 |bad=>intro s r hr;exact hr
theorem DI(n n':Nat)(h:n<=n'):oC.le (fD n) (fD n'):=by
 intro b b' hb s r hr;induction n generalizing n' s with
 |zero=>simp[fD]at hr
 |succ n ih=>
  obtain⟨m,rfl⟩:∃m,n'=m+1:=⟨n'-1,by omega⟩
  simp only[fD]at hr⊢;split at hr
  ·rename_i he;rw[hb _ _ he];exact ih m (by omega) _ hr
  ·rename_i ak;rw[hb _ _ hr];split
   ·rename_i he;rw[he]at hr;exact absurd hr (ak _)
   ·rfl
theorem afq{e e':AC->St->Option (Ex×St)}(h:∀a s r,e a s=some r->e' a s=some r){l args mem r}(hr:round e l args mem=some r):round e' l args mem=some r:=by
 unfold round at hr⊢;split at hr
 ·split at hr
  ·rename_i hlen;simp only[hlen,if_true];split at hr
   ·rename_i he;rw[h _ _ _ he];dsimp only at hr⊢;split at hr
    ·rename_i oc;simp only[oc,if_true];split at hr
     ·rename_i gM;simp only[h _ _ _ gM];exact hr
     ·rename_i gM;simp only[h _ _ _ gM];exact hr
     ·rename_i gM;simp only[h _ _ _ gM];exact hr
     ·cases hr
    ·cases hr
   ·cases hr
  ·cases hr
 ·cases hr
theorem VD{C:iM}{c c':cx}{l l':oC}(h:c.le c')(hl:l.le l'):(body C c l).le (body C c' l'):=by
 intro fv args mem r hr;unfold body at hr⊢;split at hr
 ·split at hr
  ·exact hr
  ·split at hr
   ·rename_i hg;generalize he:exec C.gl c l _ _=x at hr;cases x with
    |none=>simp[fin]at hr
    |some x=>simp only[Js h hl _ _ _ he];exact hr
   ·cases hr
 ·exact afq (fun a s r=>Js h hl a s r) hr
 ·cases hr
theorem Wq(C:iM)(n:Nat):(cv C n).le (cv C (n+1)):=by
 induction n with
 |zero=>intro fv args mem r hr;simp[cv]at hr
 |succ n ih=>exact VD ih (DI _ _ (by omega))
theorem xn(C:iM){n n':Nat}(h:n<=n'):(cv C n).le (cv C n'):=by
 induction h with
 |refl=>exact fun _ _ _ _ h=>h
 |step _ ih=>exact fun _ _ _ _ h=>Wq C _ _ _ _ _ (ih _ _ _ _ h)
structure Gh where
 im:Nat->Nat->Option Value
 mb:Nat->Option Nat
 rows:Nat->Nat->Option (Nat×Nat)
abbrev LB:=Nat->Nat->Option Nat
def Gh.sub(g g':Gh):Prop:=
 (∀b o x,g.im b o=some x->g'.im b o=some x)/\(∀id b,g.mb id=some b->g'.mb id=some b)/\(∀t n x,g.rows t n=some x->g'.rows t n=some x)
def Gh.cut(g:Gh)(n:Nat):Gh:=
 {im:=g.im,mb:=fun id=>if id<n then g.mb id else none,rows:=fun t m=>if t<n then g.rows t m else none}
def nw(g:Gh)(n b o cap:Nat):χ->Prop
 | .any=>True
 | .full=>cap=n
 | .nil=>False
 | .own t=>o=0/\g.rows t n=some (b,cap)
def bS:LB:=fun _ _=>none
def rA(mb:Nat->Option Nat):Fn->Fn->Prop
 | .func f,.func f'=>f'=f
 | .yield i,.yield b=>mb i=some b
 |_,_=>False
theorem rA.mono{mb mH:Nat->Option Nat}(hm:∀i b,mb i=some b->mH i=some b){f f':Fn}(h:rA mb f f'):rA mH f f':=by cases f<;>cases f'<;>first|exact h|exact hm _ _ h|exact h.elim
inductive VR (g:Gh):LB->AV->Value->Prop
 |undef (lb:LB):VR g lb .undef (.tuple #[])
 |cR (lb:LB) (x:Value) (h:x.oneCell'=true):VR g lb .cR x
 |int (lb:LB) (k:IntKind) (n:Int):VR g lb (.int k n) (.int k n)
 |bool (lb:LB) (b:Bool):VR g lb (.bool b) (.bool b)
 |str (lb:LB) (b:ByteArray) (s:List Nat) (h:b.data.toList.map UInt8.toNat=s):VR g lb (.str s) (.string b)
 |iK (lb:LB):VR g lb .iK (.pointer none)
 |ae (lb:LB) (d v off b:Nat) (h:lb d v=some b):VR g lb (.ae d v off) (.pointer (some ⟨b,off,none⟩))
 |ν (lb:LB) (id off b:Nat) (h:g.mb id=some b):VR g lb (.ν id off) (.pointer (some ⟨b,off,none⟩))
 |ref (lb:LB) (l:List AV) (b o:Nat) (xs:Nat->Value) (cu:∀i,i<l.length->g.im b (o+i)=some (xs i)/\(xs i).oneCell'=true)
   (hv:∀i (h:i<l.length),VR g bS l[i] (xs i)):VR g lb (.ref l) (.pointer (some ⟨b,o,none⟩))
 |iJ (lb:LB):VR g lb (.list .nil []) (.slice none 0 0)
 |gX (lb:LB) (c:χ) (a:Addr) (cap:Nat) (hc:c= .any\/(c= .full/\cap=0)):VR g lb (.list c []) (.slice (some a) 0 cap)
 |sl (lb:LB) (kd id off n cap b:Nat) (hc:n<=cap) (h:g.mb id=some b):VR g lb (.sl kd id off n cap) (.slice (some ⟨b,off,none⟩) n cap)
 |list (lb:LB) (c:χ) (l:List AV) (b o sz n cap:Nat) (xs:Nat->Nat->Value) (hn:l.length=n) (db:n<=cap) (hc:nw g n b o cap c)
   (bh:∀e∈l,e.cells.length=sz)
   (cu:∀i,i<n->∀j,j<sz->g.im b (o+(i*sz+j))=some (xs i j)/\(xs i j).oneCell'=true)
   (hv:∀i (h:i<l.length) j (hj:j<l[i].cells.length),VR g bS l[i].cells[j] (xs i j)):VR g lb (.list c l) (.slice (some ⟨b,o,none⟩) n cap)
 |agg (lb:LB) (l:List AV) (a:Array Value) (hs:a.size=l.length) (h1:∀i (h:i<a.size),a[i].oneCell'=true)
   (hv:∀i (h:i<l.length) (h':i<a.size),VR g lb l[i] a[i]):VR g lb (.agg l) (.agg a)
 |aP (lb:LB) (l:List AV) (a:Array Value) (hs:a.size=l.length)
   (hv:∀i (h:i<l.length) (h':i<a.size),VR g lb l[i] a[i]):VR g lb (.aP l) (.tuple a)
 |fn (lb:LB) (f f':Fn) (l m:List AV) (a b:Array Value) (hs:a.size=l.length) (ht:b.size=m.length)
   (hy:rA g.mb f f')
   (hv:∀i (h:i<l.length) (h':i<a.size),VR g lb l[i] a[i]) (hw:∀i (h:i<m.length) (h':i<b.size),VR g lb m[i] b[i]):
   VR g lb (.fn f l m) (.func f' a b)
 |eJ (lb:LB):VR g lb .eJ .nilFunc
 |iface (lb:LB) (t:TypeId) (v:AV) (x:Value) (h:VR g lb v x):VR g lb (.iface t v) (.iface t x)
 |fY (lb:LB):VR g lb .fY .nilIface
 |map (lb:LB) (id b:Nat) (h:g.mb id=some b):VR g lb (.map id) (.map (some b))
 |fJ (lb:LB):VR g lb .fJ (.map none)
theorem Ph{g g':Gh}{n b o cap:Nat}{c:χ}(hg:g.sub g')(h:nw g n b o cap c):nw g' n b o cap c:=by
 cases c with
 |any=>trivial
 |full=>exact h
 |nil=>exact h
 |own t=>exact⟨h.1,hg.2.2 _ _ _ h.2⟩
theorem VR.mono{g g':Gh}{lb lb':LB}{v:AV}{x:Value}(hg:g.sub g')(hl:∀d i b,lb d i=some b->lb' d i=some b)(h:VR g lb v x):VR g' lb' v x:=by
 induction h generalizing lb' with
 |undef=>exact .undef _
 |cR _ x h=>exact .cR _ x h
 |int _ k n=>exact .int _ k n
 |bool _ b=>exact .bool _ b
 |str _ b s h=>exact .str _ b s h
 |iK=>exact .iK _
 |ae _ d v off b h=>exact .ae _ d v off b (hl _ _ _ h)
 |ν _ id off b h=>exact .ν _ id off b (hg.2.1 _ _ h)
 |ref _ l b o xs cu _ ih=>exact .ref _ l b o xs (fun i hi=>⟨hg.1 _ _ _ (cu i hi).1,(cu i hi).2⟩) fun i hi=>ih i hi fun _ _ _ h=>h
 |iJ=>exact .iJ _
 |gX _ c a cap hc=>exact .gX _ c a cap hc
 |sl _ kd id off n cap b hc h=>exact .sl _ kd id off n cap b hc (hg.2.1 _ _ h)
 |list _ c l b o sz n cap xs hn db hc bh cu _ ih=>exact .list _ c l b o sz n cap xs hn db (Ph hg hc) bh (fun i hi j hj=>⟨hg.1 _ _ _ (cu i hi j hj).1,(cu i hi j hj).2⟩) fun i hi j hj=>ih i hi j hj fun _ _ _ h=>h
 |agg _ l a hs h1 _ ih=>exact .agg _ l a hs h1 fun i hi aj=>ih i hi aj hl
 |aP _ l a hs _ ih=>exact .aP _ l a hs fun i hi aj=>ih i hi aj hl
 |fn _ f f' l m a b hs ht hy _ _ mZ kT=>exact .fn _ f f' l m a b hs ht (hy.mono hg.2.1) (fun i hi aj=>mZ i hi aj hl) (fun i hi aj=>kT i hi aj hl)
 |eJ=>exact .eJ _
 |iface _ t v x _ ih=>exact .iface _ t v x (ih hl)
 |fY=>exact .fY _
 |map _ id b h=>exact .map _ id b (hg.2.1 _ _ h)
 |fJ=>exact .fJ _
theorem Gh.eG(g:Gh):g.sub g:=⟨fun _ _ _ h=>h,fun _ _ h=>h,fun _ _ _ h=>h⟩
theorem Gh.Di{a b c:Gh}(h:a.sub b)(k:b.sub c):a.sub c:=
 ⟨fun _ _ _ x=>k.1 _ _ _ (h.1 _ _ _ x),fun _ _ x=>k.2.1 _ _ (h.2.1 _ _ x),fun _ _ _ x=>k.2.2 _ _ _ (h.2.2 _ _ _ x)⟩
theorem VR.sub{g g':Gh}{lb:LB}{v:AV}{x:Value}(hg:g.sub g')(h:VR g lb v x):VR g' lb v x:=h.mono hg fun _ _ _ h=>h
theorem D5(n:Nat)(k:Bool)(v:AV):(exp n k v).cells=v.cells.map (exp n k):=by
 cases v with
 |ν id off=>simp only[exp,AV.cells,ay,aA];by_cases h:id<n<;>simp[h]
 |fn f a b=>simp only[exp,AV.cells,ay,aA];by_cases h:Fn.below n f=true<;>simp[h]
 |map id=>simp only[exp,AV.cells,ay,aA];by_cases h:id<n<;>simp[h]
 |sl kd id off m cap=>simp only[exp,AV.cells,ay,aA];by_cases h:id<n<;>simp[h]
 |_=>simp[exp,AV.cells,fo]
theorem Pg{g:Gh}{n b o cap m:Nat}{k:Bool}{c:χ}(h:nw g n b o cap c):nw (g.cut m) n b o cap (c.exp m k):=by
 cases c with
 |any=>trivial
 |nil=>exact h
 |full=>
  simp only[χ.exp]
  split
  ·exact h
  ·trivial
 |own t=>
  simp only[χ.exp]
  split
  ·rename_i hk;simp only[jv,decide_eq_true_eq]at hk;exact⟨h.1,by simp only[Gh.cut,hk.2,if_true];exact h.2⟩
  ·trivial
theorem VR.exp{g:Gh}{lb lb':LB}{v:AV}{x:Value}(m:Nat)(k:Bool)(h:VR g lb v x):VR (g.cut m) lb' (exp m k v) x:=by
 induction h generalizing lb' with
 |undef=>exact .undef _
 |cR _ x h=>exact .cR _ x h
 |int _ k n=>exact .int _ k n
 |bool _ b=>exact .bool _ b
 |str _ b s h=>exact .str _ b s h
 |iK=>exact .iK _
 |ae _ d v off b h=>exact .cR _ _ rfl
 |ν _ id off b h=>
  simp only[ah.exp]
  split
  ·rename_i hi;exact .ν _ id off b (by simp only[Gh.cut,hi,if_true];exact h)
  ·exact .cR _ _ rfl
 |ref _ l b o xs cu _ ih=>
  simp only[ah.exp,fo]
  refine .ref _ _ b o xs (fun i hi=>cu i (by simpa using hi)) (fun i hi=>?_);simp only[iz];exact ih i (by simpa using hi)
 |iJ=>
  simp only[ah.exp,fo,aA,χ.exp]
  exact .iJ _
 |gX _ c a cap hc=>
  simp only[ah.exp,fo,aA]
  refine .gX _ _ a cap ?_;rcases hc with rfl|⟨rfl,h⟩
  ·exact .inl rfl
  ·simp only[χ.exp];split
   ·exact .inr ⟨rfl,h⟩
   ·exact .inl rfl
 |sl _ kd id off n cap b hc h=>
  simp only[ah.exp]
  split
  ·rename_i hi;exact .sl _ kd id off n cap b hc (by simp only[Gh.cut,hi,if_true];exact h)
  ·exact .cR _ _ rfl
 |list _ c l b o sz n cap xs hn db hc bh cu _ ih=>
  simp only[ah.exp,fo]
  refine .list _ _ _ b o sz n cap xs (by simpa using hn) db (Pg hc) ?_ cu ?_
  ·intro e he;obtain⟨e',fT,rfl⟩:=jy.1 he;rw[D5,dd];exact bh e' fT
  ·intro i hi j hj;have aj:i<l.length:=by simpa using hi
   have dp:j<l[i].cells.length:=by simpa[D5]using hj
   have:=ih i aj j dp (lb':=bS);simpa[D5]using this
 |agg _ l a hs h1 _ ih=>
  simp only[ah.exp,fo]
  refine .agg _ _ a (by simpa using hs) h1 fun i hi aj=>?_;simp only[iz];exact ih i (by simpa using hi) aj
 |aP _ l a hs _ ih=>
  simp only[ah.exp,fo]
  refine .aP _ _ a (by simpa using hs) fun i hi aj=>?_;simp only[iz];exact ih i (by simpa using hi) aj
 |fn _ f f' l m' a b hs ht hy _ _ mZ kT=>
  simp only[ah.exp,fo]
  split
  ·rename_i hf;refine .fn _ f f' _ _ a b (by simpa using hs) (by simpa using ht) ?_ (fun i hi aj=>?_) (fun i hi aj=>?_)
   ·cases f<;>cases f'<;>first|exact hy|exact hy.elim|skip
    simp only[Fn.below,decide_eq_true_eq]at hf;simp only[rA,Gh.cut,hf,if_true];exact hy
   ·simp only[iz];exact mZ i (by simpa using hi) aj
   ·simp only[iz];exact kT i (by simpa using hi) aj
  ·exact .cR _ _ rfl
 |eJ=>exact .eJ _
 |iface _ t v x _ ih=>exact .iface _ t _ x ih
 |fY=>exact .fY _
 |map _ id b h=>
  simp only[ah.exp]
  split
  ·rename_i hi;exact .map _ id b (by simp only[Gh.cut,hi,if_true];exact h)
  ·exact .cR _ _ rfl
 |fJ=>exact .fJ _
theorem D6(v:AV):(φ v).cells=v.cells.map φ:=by cases v<;>simp[φ,AV.cells,fO]
theorem VR.φ{g:Gh}{lb lb':LB}{v:AV}{x:Value}(h:VR g lb v x):VR g lb' (φ v) x:=by
 induction h generalizing lb' with
 |undef=>exact .undef _
 |cR _ x h=>exact .cR _ x h
 |int _ k n=>exact .int _ k n
 |bool _ b=>exact .bool _ b
 |str _ b s h=>exact .str _ b s h
 |iK=>exact .iK _
 |ae _ d v off b h=>exact .cR _ _ rfl
 |ν _ id off b h=>exact .ν _ id off b h
 |ref _ l b o xs cu _ ih=>
  simp only[ah.φ,fO]
  refine .ref _ _ b o xs (fun i hi=>cu i (by simpa using hi)) (fun i hi=>?_);simp only[iz];exact ih i (by simpa using hi)
 |iJ=>
  simp only[ah.φ,fO,aA]
  exact .iJ _
 |gX _ c a cap hc=>
  simp only[ah.φ,fO,aA]
  exact .gX _ c a cap hc
 |sl _ kd id off n cap b hc h=>exact .sl _ kd id off n cap b hc h
 |list _ c l b o sz n cap xs hn db hc bh cu _ ih=>
  simp only[ah.φ,fO]
  refine .list _ _ _ b o sz n cap xs (by simpa using hn) db hc ?_ cu ?_
  ·intro e he;obtain⟨e',fT,rfl⟩:=jy.1 he;rw[D6,dd];exact bh e' fT
  ·intro i hi j hj;have aj:i<l.length:=by simpa using hi
   have dp:j<l[i].cells.length:=by simpa[D6]using hj
   have:=ih i aj j dp (lb':=bS);simpa[D6]using this
 |agg _ l a hs h1 _ ih=>
  simp only[ah.φ,fO]
  refine .agg _ _ a (by simpa using hs) h1 fun i hi aj=>?_;simp only[iz];exact ih i (by simpa using hi) aj
 |aP _ l a hs _ ih=>
  simp only[ah.φ,fO]
  refine .aP _ _ a (by simpa using hs) fun i hi aj=>?_;simp only[iz];exact ih i (by simpa using hi) aj
 |fn _ f f' l m' a b hs ht hy _ _ mZ kT=>
  simp only[ah.φ,fO]
  refine .fn _ f f' _ _ a b (by simpa using hs) (by simpa using ht) hy (fun i hi aj=>?_) (fun i hi aj=>?_)
  ·simp only[iz];exact mZ i (by simpa using hi) aj
  ·simp only[iz];exact kT i (by simpa using hi) aj
 |eJ=>exact .eJ _
 |iface _ t v x _ ih=>exact .iface _ t _ x ih
 |fY=>exact .fY _
 |map _ id b h=>exact .map _ id b h
 |fJ=>exact .fJ _
theorem VR.cells{g:Gh}{lb:LB}{v:AV}{x:Value}(h:VR g lb v x)(hn:v.cells≠[]):
  x.cells.size=v.cells.length/\(∀i (hi:i<v.cells.length) (aj:i<x.cells.size),VR g lb v.cells[i] x.cells[i])/\(∀i (aj:i<x.cells.size),x.cells[i].oneCell'=true):=by
 cases h with
 |undef=>exact absurd rfl hn
 |aP _ l a hs hv=>exact absurd rfl hn
 |agg _ l a hs h1 hv=>exact⟨hs,fun i hi aj=>hv i hi aj,h1⟩
 |cR _ x h=>
  have hx:x.cells= #[x]:=by cases x<;>simp_all [Value.cells,Value.oneCell']
  refine⟨by simp[hx,AV.cells],fun i hi aj=>?_,fun i aj=>?_⟩
  ·have:i=0:=by simpa[AV.cells]using hi
   subst this;simp only[hx,AV.cells];exact .cR _ x h
  ·have:i=0:=by simpa[hx]using aj
   subst this;simpa[hx]using h
 |_=>
  refine⟨by simp[Value.cells,AV.cells],fun i hi aj=>?_,fun i aj=>?_⟩
  ·have:i=0:=by simpa[AV.cells]using hi
   subst this;simp only[Value.cells,AV.cells,List.getElem_cons_zero,List.getElem_toArray];constructor<;>assumption
  ·have:i=0:=by simpa[Value.cells]using aj
   subst this;simp[Value.cells,Value.oneCell']
open Go.RowKit (Below)
inductive Own
 |m (id:Nat)
 |l (d:Nat)
abbrev OW:=Nat->Option Own
abbrev eN:=Nat->AC->Code->Prop
def qj(g:Gh)(lb:LB)(own:OW)(w:World)(nm:Own)(b:Nat)(l:List AV):Prop:=
 own b=some nm/\(∀o,g.im b o=none)/\∃(a:Array Value) (e:TypeId),w.heap[b]?=some (.cells a e (0,0))/\a.size=l.length∧
  (∀i (h:i<l.length) (h':i<a.size),VR g lb l[i] a[i])/\∀i (h':i<a.size),a[i].oneCell'=true
def Nb:LS->Loop->Prop
 | .ready,L=>L.state= .ready/\L.pending.isNone
 | .busy,L=>L.state= .busy
 | .done none,L=>L.state= .done/\(match L.pending with|some .ret=>True|_=>False)
 | .done (some i),L=>L.state= .done/\(match L.pending with|some (.exit j)=>j=i|_=>False)
def sX(g:Gh)(own:OW)(LC:eN)(w:World)(id:Nat):κ->Prop
 | .cells l=>∃b,g.mb id=some b/\qj g bS own w (.m id) b l
 | .iter _ _=>False
 | .dead=>True
 | .nu T e s=>∃b,g.mb id=some b/\own b=some (.m id)/\(∀o,g.im b o=none)/\∃(p v:Value),w.heap[b]?=some (.cells #[p,v] T (0,0))∧
   (p= .pointer none\/p= .pointer (some ⟨b,0,none⟩))/\(∀x∈s,x<256)∧
   ((v= .slice none 0 0/\s=[])\/∃(r cap:Nat) (cur:Array Value),v= .slice (some ⟨r,0,none⟩) s.length cap/\own r=some (.m id)/\r≠b/\(∀o,g.im r o=none)/\s≠[]∧
    w.heap[r]?=some (.cells cur e (0,0))/\cur.size=cap/\s.length<=cap/\cap<=maxLen/\∀i (h:i<s.length),cur[i]?=some (.int .u8 s[i]))
 | .map es=>∃b,g.mb id=some b/\own b=some (.m id)/\(∀o,g.im b o=none)/\∃(a:Array MapEntry) (clock:Nat),w.heap[b]?=some (.map a clock)/\a.size=es.length∧
   (∀i (h:i<es.length) (h':i<a.size),VR g bS es[i].1 a[i].key/\VR g bS es[i].2 a[i].val)/\∀p∈es,plain p.1=true/\plain p.2=true
 | .front n sz e=>0<sz/\∃b cap,g.rows id n=some (b,cap)/\n<=cap/\own b=some (.m id)/\(∃a:Array Value,w.heap[b]?=some (.cells a e (0,0))/\a.size=cap*sz)∧
   (∀o,n*sz<=o->g.im b o=none)/\(∀m x,g.rows id m=some x->m<=n)/\g.mb id=none
 | .loop env ps fL body st=>∃b,g.mb id=some b/\own b=some (.m id)/\(∀o,g.im b o=none)/\∃(L:Loop) (N:Nat),w.heap[b]?=some (.loop L)∧
   (∀t,VR g bS (ζ env t) (L.tmps.getD t undef))/\L.params=ps.toArray/\N<=L.tmps.size/\(∀p∈ps,p<N)/\LC N fL L.assign/\LC N body L.body/\Nb st L∧
   ∀t,∃(g0:Gh) (x0:Value),(∀i b,g0.mb i=some b->i<id)/\(∀i m y,g0.rows i m=some y->i<id)/\VR g0 bS (ζ env t) x0
structure a8 (g:Gh) (own:OW) (LC:eN) (mem:Mem) (w:World):Prop where
 iR:∀id b,g.mb id=some b->id<mem.ε.length
 na:∀t n x,g.rows t n=some x->t<mem.ε.length
 blk:∀id blk,mem.ε[id]?=some blk->sX g own LC w id blk
 im:∀b o x,g.im b o=some x->w.cell? ⟨b,o,none⟩=some x
structure cA (g:Gh) (lb:LB) (own:OW) (loc:Nat->Option (Nat×κ)) (w:World):Prop where
 cells:∀d v l,loc d=some (v,.cells l)->∃b,lb d v=some b/\qj g lb own w (.l d) b l
 iter:∀d v s pos,loc d=some (v,.iter s pos)->∃b,lb d v=some b/\own b=some (.l d)/\(∀o,g.im b o=none)∧
   ∃bs:ByteArray,w.heap[b]?=some (.stringIter bs pos)/\bs.data.toList.map UInt8.toNat=s
 vh:∀d v b,lb d v=some b->∃v' blk,loc d=some (v',blk)/\v<=v'
structure bV (base:Nat) (own:OW) (w:World):Prop where
 ge:∀b o,own b=some o->base<=b/\b<w.heap.size
 base:base<=w.heap.size
structure dZ (g:Gh) (own:OW) (w:World) (g':Gh) (aO:OW) (w':World):Prop where
 sub:g.sub g'
 size:w.heap.size<=w'.heap.size
 os:w'.os=w.os
 tape:w'.tape=w.tape
 output:w'.output=w.output
 bw:∀b,b<w.heap.size->own b=none->w'.heap[b]?=w.heap[b]?
 jO:∀b,b<w.heap.size->own b=none->aO b=none
 im:∀b,b<w.heap.size->own b=none->∀o,g'.im b o=g.im b o
theorem dZ.refl(g:Gh)(own:OW)(w:World):dZ g own w g own w:=
 ⟨g.eG,bF _,rfl,rfl,rfl,fun _ _ _=>rfl,fun _ _ h=>h,fun _ _ _ _=>rfl⟩
theorem dZ.trans{g1 g2 g3:Gh}{o1 o2 o3:OW}{w1 w2 w3:World}(h:dZ g1 o1 w1 g2 o2 w2)(k:dZ g2 o2 w2 g3 o3 w3):dZ g1 o1 w1 g3 o3 w3:= {
 sub:=Gh.Di h.sub k.sub
 size:=Nat.le_trans h.size k.size
 os:=k.os.trans h.os
 tape:=k.tape.trans h.tape
 output:=k.output.trans h.output
 bw b hb ho:=(k.bw b (rF hb h.size) (h.jO b hb ho)).trans (h.bw b hb ho)
 jO b hb ho:=k.jO b (rF hb h.size) (h.jO b hb ho)
 im b hb ho o:=(k.im b (rF hb h.size) (h.jO b hb ho) o).trans (h.im b hb ho o)}
theorem dZ.below{base:Nat}{g g':Gh}{own aO:OW}{w w':World}(h:dZ g own w g' aO w')(ho:bV base own w):Below base w w':=
 ⟨h.os,h.tape,h.output,h.size,fun k hk=>h.bw k (rF hk ho.base) (by
  cases hx:own k with
  |none=>rfl
  |some o=>have:=(ho.ge k o hx).1;omega)⟩
theorem ph{w w':World}{b o:Nat}(h:w'.heap[b]?=w.heap[b]?):w'.cell? ⟨b,o,none⟩=w.cell? ⟨b,o,none⟩:=by simp[ti,h]
theorem qj.bw{g g':Gh}{lb lb':LB}{own aO:OW}{w w':World}{nm:Own}{b:Nat}{l:List AV}(h:qj g lb own w nm b l)
  (hg:g.sub g') (hl:∀d i b,lb d i=some b->lb' d i=some b) (ho:aO b=own b) (hw:w'.heap[b]?=w.heap[b]?) (hi:∀o,g'.im b o=g.im b o):qj g' lb' aO w' nm b l:=by
 obtain⟨h1,h2,a,e,h3,h4,h5,h6⟩:=h;exact⟨ho.trans h1,fun o=>(hi o).trans (h2 o),a,e,hw.trans h3,h4,fun i hi aj=>(h5 i hi aj).mono hg hl,h6⟩
theorem sX.bw{g g':Gh}{own aO:OW}{LC:eN}{w w':World}{id:Nat}{blk:κ}(h:sX g own LC w id blk)(hg:g.sub g')
  (hb:∀b,own b=some (.m id)->aO b=own b/\w'.heap[b]?=w.heap[b]?/\∀o,g'.im b o=g.im b o)
  (hr:∀n,g.rows id n=none->g'.rows id n=none) (hm:g.mb id=none->g'.mb id=none):sX g' aO LC w' id blk:=by
 cases blk with
 |cells l=>
  obtain⟨b,h1,h2⟩:=h
  obtain⟨k1,k2,k3⟩:=hb b h2.1;exact⟨b,hg.2.1 _ _ h1,h2.bw hg (fun _ _ _ h=>h) k1 k2 k3⟩
 |iter s pos=>exact h
 |dead=>trivial
 |nu T e s=>
  obtain⟨b,h1,h2,h3,p,v,h4,h5,h6,h7⟩:=h
  obtain⟨k1,k2,k3⟩:=hb b h2;refine⟨b,hg.2.1 _ _ h1,k1.trans h2,fun o=>(k3 o).trans (h3 o),p,v,k2.trans h4,h5,h6,?_⟩;rcases h7 with h7|⟨r,cap,cur,q1,q2,q3,q4,q5,q6,q7⟩
  ·exact .inl h7
  ·obtain⟨l1,l2,l3⟩:=hb r q2;exact .inr ⟨r,cap,cur,q1,l1.trans q2,q3,fun o=>(l3 o).trans (q4 o),q5,l2.trans q6,q7⟩
 |map es=>
  obtain⟨b,h1,h2,h3,a,c,h4,h5,h6,h7⟩:=h
  obtain⟨k1,k2,k3⟩:=hb b h2;exact⟨b,hg.2.1 _ _ h1,k1.trans h2,fun o=>(k3 o).trans (h3 o),a,c,k2.trans h4,h5,fun i hi aj=>⟨(h6 i hi aj).1.sub hg,(h6 i hi aj).2.sub hg⟩,h7⟩
 |front n sz e=>
  obtain⟨h0,b,cap,h1,h2,h3,⟨a,h4,h5⟩,h6,h7,h8⟩:=h
  obtain⟨k1,k2,k3⟩:=hb b h3;refine⟨h0,b,cap,hg.2.2 _ _ _ h1,h2,k1.trans h3,⟨a,k2.trans h4,h5⟩,fun o ho=>(k3 o).trans (h6 o ho),fun m x hx=>?_,hm h8⟩;cases hy:g.rows id m with
  |none=>rw[hr m hy]at hx;cases hx
  |some y=>exact h7 m y hy
 |loop env ps fL body st=>
  obtain⟨b,h1,h2,h3,L,N,h4,h5,h6⟩:=h
  obtain⟨k1,k2,k3⟩:=hb b h2;exact⟨b,hg.2.1 _ _ h1,k1.trans h2,fun o=>(k3 o).trans (h3 o),L,N,k2.trans h4,fun t=>(h5 t).sub hg,h6⟩
theorem TB{g:Gh}{lb:LB}{own:OW}{LC:eN}{loc:Nat->Option (Nat×κ)}{mem:Mem}{w:World}(hm:a8 g own LC mem w)(hl:cA g lb own loc w)
  {p:AV} {x:Value} {n:Nat} {cs:List AV} (hp:VR g lb p x) (hr:rd loc mem p n=some cs):
  ∃(b o:Nat) (vs:List Value),x= .pointer (some ⟨b,o,none⟩)/\vs.length=n/\cs.length=n/\w.rangeAt b o vs∧
   (∀i (h:i<cs.length) (h':i<vs.length),VR g lb cs[i] vs[i])/\∀v∈vs,v.oneCell'=true:=by
 have key:∀(b off:Nat) (l:List AV) (lb':LB) (nm:Own),qj g lb' own w nm b l->(∀d i b,lb' d i=some b->lb d i=some b)->off+n<=l.length->cs=(l.drop off).take n→
   ∃vs:List Value,vs.length=n/\cs.length=n/\w.rangeAt b off vs/\(∀i (h:i<cs.length) (h':i<vs.length),VR g lb cs[i] vs[i])/\∀v∈vs,v.oneCell'=true:=by
  rintro b off l lb' nm ⟨_,_,a,e,h3,h4,h5,h6⟩ pJ hle rfl
  refine⟨(a.toList.drop off).take n,by simp;omega,by simp;omega,?_,?_,?_⟩
  ·intro j v hv;rw[List.getElem?_take]at hv;split at hv
   ·rw[List.getElem?_drop]at hv;simpa[ti,h3]using hv
   ·cases hv
  ·intro i h h';simp only[AN,wW,Array.getElem_toList];have hi:i<n:=by simp at h;omega
   exact(h5 (off+i) (by omega) (by omega)).mono g.eG pJ
  ·intro v hv;have:=qp (pa hv);obtain⟨i,hi,rfl⟩:=qo.1 this;simpa using h6 i (by simpa using hi)
 cases p with
 |ae d v off=>
  cases hp with
  |ae _ _ _ _ b hb=>
  simp only[rd]at hr
  split at hr
  ·rename_i v' l hd;split at hr
   ·rename_i hc;obtain⟨rfl,hle⟩:=hc;obtain⟨b',bf,pA⟩:=hl.cells d _ l hd;rw[hb]at bf;cases bf;obtain⟨vs,k⟩:=key b off l lb (.l d) pA (fun _ _ _ h=>h) hle (by simpa using hr.symm);exact⟨b,off,vs,rfl,k⟩
   ·cases hr
  ·cases hr
 |ν id off=>
  cases hp with
  |ν _ _ _ b hb=>
  simp only[rd]at hr
  split at hr
  ·rename_i l hd;split at hr
   ·rename_i hle;obtain⟨b',bf,pA⟩:=hm.blk id _ hd;rw[hb]at bf;cases bf;obtain⟨vs,k⟩:=key b off l bS (.m id) pA (fun _ _ _ h=>by cases h) hle (by simpa using hr.symm);exact⟨b,off,vs,rfl,k⟩
   ·cases hr
  ·cases hr
 |ref l=>
  cases hp with
  |ref _ _ b o xs cu hv=>
  simp only[rd]at hr
  split at hr
  ·rename_i hle;simp only[aZ]at hr;subst hr;refine⟨b,o,(rC n).map xs,rfl,by simp,by simp;omega,?_,?_,?_⟩
   ·intro j v mX;simp only[uh,bH]at mX;obtain⟨i,hi,rfl⟩:=mX;have hj:j<n:=by
     rcases bP j n with h|h
     ·exact h
     ·rw[gZ (by simpa using h)]at hi;cases hi
    rw[ahw hj]at hi;cases hi;exact hm.im _ _ _ (cu j (by omega)).1
   ·intro i h h';simp only[AN,iz,Ir];exact(hv i (by simp at h;omega)).mono g.eG fun _ _ _ h=>by cases h
   ·intro v mX;obtain⟨i,hi,rfl⟩:=jy.1 mX;exact(cu i (by have:=AR.1 hi;omega)).2
  ·cases hr
 |_=>simp[rd]at hr
def nk(loc:Nat->Option (Nat×κ)):kZ->Nat->Option (Nat×κ)
 |none=>loc
 |some (d,v,b)=>fun d'=>if d=d' then some (v,b)else loc d'
theorem LV(loc:Loc)(u:kZ):τ (eL loc u)=nk (τ loc) u:=by
 funext d';cases u with
 |none=>rfl
 |some x=>obtain⟨d,v,b⟩:=x;simp[eL,nk,fW]
def iO(base:Nat)(LC:eN)(g:Gh)(lb:LB)(own:OW)(loc:Nat->Option (Nat×κ))(w:World)(v:AV)(u:kZ)(m':Mem)(x:Value)(w':World):Prop:=
 ∃(g':Gh) (lb':LB) (aO:OW),dZ g own w g' aO w'/\(∀d i b,lb d i=some b->lb' d i=some b)/\VR g' lb' v x/\a8 g' aO LC m' w'∧
  cA g' lb' aO (nk loc u) w'/\bV base aO w'
section
variable{base:Nat}{LC:eN}{g g':Gh}{lb lb':LB}{own aO:OW}{loc:Nat->Option (Nat×κ)}{mem:Mem}{w w':World}
theorem iO.pure{v:AV}{x:Value}(hm:a8 g own LC mem w)(hl:cA g lb own loc w)(ho:bV base own w)(h:VR g lb v x):iO base LC g lb own loc w v none mem x w:=
 ⟨g,lb,own,.refl g own w,fun _ _ _ h=>h,h,hm,hl,ho⟩
theorem a8.bw(h:a8 g own LC mem w)(hg:g.sub g')(BX:∀id,g.mb id=none->g'.mb id=none)(nJ:∀t n,g.rows t n=none->g'.rows t n=none)
  (hb:∀id b,own b=some (.m id)->aO b=own b/\w'.heap[b]?=w.heap[b]?/\∀o,g'.im b o=g.im b o)
  (cu:∀b o x,g'.im b o=some x->w'.cell? ⟨b,o,none⟩=some x):a8 g' aO LC mem w':= {
 iR id b bf:=by
  cases hx:g.mb id with
  |none=>rw[BX id hx]at bf;cases bf
  |some c=>exact h.iR id c hx
 na t n x hx:=by
  cases hy:g.rows t n with
  |none=>rw[nJ t n hy]at hx;cases hx
  |some y=>exact h.na t n y hy
 blk id blk hid:=(h.blk id blk hid).bw hg (hb id) (nJ id) (BX id)
 im:=cu}
theorem cA.bw(h:cA g lb own loc w)(hg:g.sub g')
  (hb:∀d b,own b=some (.l d)->aO b=own b/\w'.heap[b]?=w.heap[b]?/\∀o,g'.im b o=g.im b o):cA g' lb aO loc w':= {
 cells d v l hd:=by obtain⟨b,h1,h2⟩:=h.cells d v l hd;obtain⟨k1,k2,k3⟩:=hb d b h2.1;exact⟨b,h1,h2.bw hg (fun _ _ _ h=>h) k1 k2 k3⟩
 iter d v s pos hd:=by obtain⟨b,h1,h2,h3,bs,h4,h5⟩:=h.iter d v s pos hd;obtain⟨k1,k2,k3⟩:=hb d b h2;exact⟨b,h1,k1.trans h2,fun o=>(k3 o).trans (h3 o),bs,k2.trans h4,h5⟩
 vh:=h.vh}
theorem tE(w:World)(o:Obj){b:Nat}(h:b<w.heap.size):(w.alloc o).heap[b]?=w.heap[b]?:=Go.RowKit.Below.heap_alloc w o b h
theorem pB(w:World)(o:Obj):(w.alloc o).heap[w.heap.size]?=some o:=by show(w.heap.push o)[w.heap.size]?=_;simp
theorem vB{w:World}{b o:Nat}{x:Value}(h:w.cell? ⟨b,o,none⟩=some x):b<w.heap.size:=by
 unfold ti at h;split at h
 ·rename_i heq;exact(Array.getElem?_eq_some_iff.1 heq).1
 ·cases h
theorem iO.drew{v:AV}{u:kZ}{m':Mem}{x:Value}(h:iO base LC g lb own loc w.drew v u m' x w'):iO base LC g lb own loc w v u m' x w':=by obtain⟨g',lb',aO,hs,r⟩:=h;exact⟨g',lb',aO,⟨hs.sub,hs.size,hs.os,hs.tape,hs.output,hs.bw,hs.jO,hs.im⟩,r⟩
theorem a8.drew(h:a8 g own LC mem w):a8 g own LC mem w.drew:=
 h.bw g.eG (fun _ h=>h) (fun _ _ h=>h) (fun _ _ _=>⟨rfl,rfl,fun _=>rfl⟩) h.im
theorem cA.drew(h:cA g lb own loc w):cA g lb own loc w.drew:=h.bw g.eG fun _ _ _=>⟨rfl,rfl,fun _=>rfl⟩
theorem bV.drew(h:bV base own w):bV base own w.drew:=⟨h.ge,h.base⟩
def gq(own:OW)(b:Nat)(o:Option Own):OW:=fun b'=>if b'=b then o else own b'
theorem yy(ho:bV base own w){b:Nat}{o:Own}(h:own b=some o):b≠w.heap.size:=by have:=(ho.ge b o h).2;omega
theorem a8.alloc(h:a8 g own LC mem w)(ho:bV base own w)(o:Obj)(nm:Option Own):a8 g (gq own w.heap.size nm) LC mem (w.alloc o):=
 h.bw g.eG (fun _ h=>h) (fun _ _ h=>h)
  (fun id b hb=>⟨by simp[gq,yy ho hb],tE w o (ho.ge b _ hb).2,fun _=>rfl⟩)
  (fun b o' x hx=>by
   have hc:=h.im b o' x hx
   rw[ph (tE w o (vB hc))];exact hc)
theorem cA.alloc(h:cA g lb own loc w)(ho:bV base own w)(o:Obj)(nm:Option Own):cA g lb (gq own w.heap.size nm) loc (w.alloc o):=
 h.bw g.eG (fun d b hb=>⟨by simp[gq,yy ho hb],tE w o (ho.ge b _ hb).2,fun _=>rfl⟩)
theorem dZ.alloc(g:Gh)(own:OW)(w:World)(o:Obj)(nm:Option Own):dZ g own w g (gq own w.heap.size nm) (w.alloc o):= {
 sub:=g.eG
 size:=by simp
 os:=rfl
 tape:=rfl
 output:=rfl
 bw b hb _:=tE w o hb
 jO b hb h:=by simp only[gq];rw[if_neg (by omega)];exact h
 im _ _ _ _:=rfl}
theorem bV.alloc(h:bV base own w)(o:Obj)(nm:Option Own):bV base (gq own w.heap.size nm) (w.alloc o):= {
 ge b o' hb:=by
  simp only[gq]at hb;split at hb
  ·rename_i gh;subst gh;exact⟨h.base,by simp⟩
  ·have:=h.ge b o' hb;exact⟨this.1,by simp;omega⟩
 base:=by have:=h.base;simp;omega}
theorem wv(h:a8 g own LC mem w)(o:Nat):g.im w.heap.size o=none:=by
 cases hx:g.im w.heap.size o with
 |none=>rfl
 |some x=>have:=vB (h.im _ _ _ hx);omega
def sF(lb:LB)(d v b:Nat):LB:=fun d' v'=>if d'=d/\v'=v then some b else lb d' v'
theorem SI(h:cA g lb own loc w){d v b:Nat}(hb:lb d v=some b):v<aR loc d:=by obtain⟨v',blk,h1,h2⟩:=h.vh d v b hb;simp only[aR,h1];omega
theorem Hr(h:cA g lb own loc w)(d b:Nat):∀d' i b',lb d' i=some b'->sF lb d (aR loc d) b d' i=some b':=by
 intro d' i b' hb;simp only[sF];rw[if_neg]
 ·exact hb
 ·rintro⟨rfl,rfl⟩
  exact ahx _ (SI h hb)
theorem cA.new(h:cA g lb own loc w)(ho:bV base own w)(d:Nat)(o:Obj)(blk:κ)
  (hc:∀l,blk= .cells l->qj g (sF lb d (aR loc d) w.heap.size) (gq own w.heap.size (some (.l d))) (w.alloc o) (.l d) w.heap.size l)
  (hi:∀s pos,blk= .iter s pos->(∀o,g.im w.heap.size o=none)/\∃bs:ByteArray,o= .stringIter bs pos/\bs.data.toList.map UInt8.toNat=s):
  cA g (sF lb d (aR loc d) w.heap.size) (gq own w.heap.size (some (.l d))) (nk loc (some (d,aR loc d,blk))) (w.alloc o):=by
 have h':=h.alloc ho o (some (.l d));have hs:=Hr h d w.heap.size;refine⟨fun d' v l hd=>?_,fun d' v s pos hd=>?_,fun d' v b hb=>?_⟩
 ·simp only[nk]at hd;split at hd
  ·rename_i gm;subst gm;cases hd;exact⟨w.heap.size,by simp[sF],hc l rfl⟩
  ·obtain⟨b,h1,h2⟩:=h'.cells d' v l hd;exact⟨b,hs _ _ _ h1,h2.bw g.eG hs rfl rfl fun _=>rfl⟩
 ·simp only[nk]at hd;split at hd
  ·rename_i gm;subst gm;cases hd;obtain⟨k1,bs,rfl,k2⟩:=hi s pos rfl;exact⟨w.heap.size,by simp[sF],by simp[gq],k1,bs,pB w _,k2⟩
  ·obtain⟨b,h1,r⟩:=h'.iter d' v s pos hd;exact⟨b,hs _ _ _ h1,r⟩
 ·simp only[sF]at hb;split at hb
  ·rename_i gm;obtain⟨rfl,rfl⟩:=gm;exact⟨_,blk,by simp[nk],bF _⟩
  ·by_cases gm:d=d'
   ·subst gm;exact⟨_,blk,by simp[nk],yR (SI h hb)⟩
   ·obtain⟨v',II,h1,h2⟩:=h.vh d' v b hb;exact⟨v',II,by simp[nk,gm,h1],h2⟩
theorem a8.push{o':OW}(h:a8 g own LC mem w)(hk:a8 g o' LC mem w')(blk:κ)(mH:Nat->Option Nat)
  (iT:∀id b,mH id=some b->g.mb id=some b\/id=mem.ε.length) (Q2:∀id,id<mem.ε.length->mH id=g.mb id)
  (sn:sX {g with mb:=mH} o' LC w' mem.ε.length blk):a8 {g with mb:=mH} o' LC (mem.push blk) w':=by
 have dH:g.sub {g with mb:=mH}:=⟨fun _ _ _ h=>h,fun id b hb=>by rw[<-hb];exact Q2 id (h.iR id b hb),fun _ _ _ h=>h⟩;refine⟨fun id b hb=>?_,fun t n x hx=>?_,fun id II hid=>?_,hk.im⟩
 ·simp only[Mem.push,fu,eZ,lK];rcases iT id b hb with bf|rfl
  ·have:=h.iR id b bf;omega
  ·omega
 ·have:=h.na t n x hx;simp only[Mem.push,fu,eZ,lK];omega
 ·simp only[Mem.push]at hid;rcases bP id mem.ε.length with ρ|cG
  ·rw[dX ρ]at hid;exact(hk.blk id II hid).bw dH (fun _ _=>⟨rfl,rfl,fun _=>rfl⟩) (fun _ h=>h) (fun hn=>by show mH id=none;rw[Q2 id ρ];exact hn)
  ·rw[s8 cG]at hid;have:id=mem.ε.length:=by
    rcases bP 0 (id-mem.ε.length)with h0|h0
    ·rw[gZ (by simp;omega)]at hid;cases hid
    ·omega
   subst this;simp at hid;subst hid;exact sn
theorem Hz{v:AV}{x:Value}(_h:a8 g own LC mem w)(hv:VR g lb v x):VR g bS (mem.φ v) x:=VR.φ hv
theorem adw(hm:a8 g own LC mem w)(hl:cA g lb own loc w)(ho:bV base own w){T e:TypeId}:
  iO base LC g lb own loc w (.ν mem.ε.length 0) none (mem.push (.nu T e [])) (.pointer (some ⟨w.heap.size,0,none⟩)) (w.alloc (.cells #[.pointer none,.slice none 0 0] T)):=by
 have cu:∀o,g.im w.heap.size o=none:=wv hm;let g':Gh:= {g with mb:=fun id=>if id=mem.ε.length then some w.heap.size else g.mb id};have dH:g.sub g':=⟨fun _ _ _ h=>h,fun id b hb=>by
  have:=hm.iR id b hb
  simp only[g'];rw[if_neg (by omega)];exact hb,fun _ _ _ h=>h⟩
 have ψ:=dZ.alloc g own w (.cells #[.pointer none,.slice none 0 0] T) (some (.m mem.ε.length));refine⟨g',lb,_,⟨dH,ψ.size,ψ.os,ψ.tape,ψ.output,ψ.bw,ψ.jO,ψ.im⟩,fun _ _ _ h=>h,.ν _ _ _ _ (by simp[g']),?_,?_,ho.alloc _ _⟩
 ·refine hm.push (hm.alloc ho _ _) _ _ (fun id b hb=>?_) (fun id hid=>?_) ?_
  ·split at hb
   ·exact .inr (by assumption)
   ·exact .inl hb
  ·exact if_neg (by omega)
  ·exact⟨w.heap.size,by simp,by simp[gq],cu,_,_,pB w _,.inl rfl,fun x hx=>(by cases hx),.inl ⟨rfl,rfl⟩⟩
 ·exact(hl.alloc ho _ _).bw dH fun _ _ _=>⟨rfl,rfl,fun _=>rfl⟩
theorem Ma(hm:a8 g own LC mem w)(hl:cA g lb own loc w)(ho:bV base own w){qJ:Bool}{dst:Option Nat}{l:List AV}{cs:Array Value}{e:TypeId}
  (hs:cs.size=l.length) (hv:∀i (h:i<l.length) (h':i<cs.size),VR g lb l[i] cs[i]) (h1:∀i (h':i<cs.size),cs[i].oneCell'=true)
  {v:AV} {u:kZ} {m':Mem} (hr:newVar loc mem qJ dst l=some (v,u,m')):
  iO base LC g lb own loc w v u m' (.pointer (some ⟨w.heap.size,0,none⟩)) (w.alloc (.cells cs e)):=by
 have cu:∀o,g.im w.heap.size o=none:=wv hm;unfold newVar at hr;split at hr
 ·simp only[aZ,aN]at hr;obtain⟨rfl,rfl,rfl⟩:=hr;let g':Gh:= {g with mb:=fun id=>if id=mem.ε.length then some w.heap.size else g.mb id};have dH:g.sub g':=⟨fun _ _ _ h=>h,fun id b hb=>by
   have:=hm.iR id b hb
   simp only[g'];rw[if_neg (by omega)];exact hb,fun _ _ _ h=>h⟩
  have ψ:=dZ.alloc g own w (.cells cs e) (some (.m mem.ε.length));refine⟨g',lb,_,⟨dH,ψ.size,ψ.os,ψ.tape,ψ.output,ψ.bw,ψ.jO,ψ.im⟩,fun _ _ _ h=>h,.ν _ _ _ _ (by simp[g']),?_,?_,ho.alloc _ _⟩
  ·refine hm.push (hm.alloc ho _ _) _ _ (fun id b hb=>?_) (fun id hid=>?_) ?_
   ·split at hb
    ·exact .inr (by assumption)
    ·exact .inl hb
   ·exact if_neg (by omega)
   ·refine⟨w.heap.size,by simp,by simp[gq],cu,cs,e,pB w _,by simpa using hs,fun i hi aj=>?_,h1⟩;simp only[iz];exact(Hz hm (hv i (by simpa using hi) aj)).sub dH
  ·exact(hl.alloc ho _ _).bw dH fun _ _ _=>⟨rfl,rfl,fun _=>rfl⟩
 ·split at hr
  ·rename_i d;simp only[aZ,aN]at hr;obtain⟨rfl,rfl,rfl⟩:=hr;refine⟨g,sF lb d (aR loc d) w.heap.size,_,.alloc g own w _ (some (.l d)),Hr hl d _,.ae _ _ _ _ _ (by simp[sF]),hm.alloc ho _ _,?_,ho.alloc _ _⟩;refine hl.new ho d _ _ (fun l' gV=>?_) (fun s pos h=>by cases h);cases gV;exact⟨by simp[gq],cu,cs,e,pB w _,hs,fun i hi aj=>(hv i hi aj).mono g.eG (Hr hl d _),h1⟩
  ·cases hr
end
def PW{α β:Type}(R:α->β->Prop)(l:List α)(m:List β):Prop:=l.length=m.length/\∀i (h:i<l.length) (h':i<m.length),R l[i] m[i]
section
variable{α β:Type}{R:α->β->Prop}
theorem PW.append{l l':List α}{m m':List β}(h:PW R l m)(h':PW R l' m'):PW R (l++l') (m++m'):=by
 refine⟨by simp[h.1,h'.1],fun i hi aj=>?_⟩;rcases bP i l.length with ρ|cG
 ·rw[AL ρ,AL (by have:=h.1;omega)];exact h.2 i ρ _
 ·rw[AM cG,AM (by have:=h.1;omega)];have he:i-m.length=i-l.length:=by rw[h.1]
  have:=h'.2 (i-l.length) (by simp at hi;omega) (by simp at aj;have:=h.1;omega);simpa[h.1]using this
theorem PW.take{l:List α}{m:List β}(h:PW R l m)(n:Nat):PW R (l.take n) (m.take n):=by refine⟨by simp[h.1],fun i hi aj=>?_⟩;simp only[AN];exact h.2 i _ _
theorem PW.drop{l:List α}{m:List β}(h:PW R l m)(n:Nat):PW R (l.drop n) (m.drop n):=by refine⟨by simp[h.1],fun i hi aj=>?_⟩;simp only[wW];exact h.2 _ _ _
theorem PW.mono{R':α->β->Prop}{l:List α}{m:List β}(h:PW R l m)(hr:∀a b,R a b->R' a b):PW R' l m:=⟨h.1,fun i hi aj=>hr _ _ (h.2 i hi aj)⟩
theorem PW.map{γ:Type}{R':γ->β->Prop}{l:List α}{m:List β}(f:α->γ)(h:PW R l m)(hr:∀a b,R a b->R' (f a) b):PW R' (l.map f) m:=
 ⟨by simp[h.1],fun i hi aj=>by simp only[iz];exact hr _ _ (h.2 i (by simpa using hi) aj)⟩
theorem PW.nil:PW R ([]:List α) ([]:List β):=⟨rfl,fun i h=>by simp at h⟩
theorem PW.cons{a:α}{b:β}{l:List α}{m:List β}(h:R a b)(hl:PW R l m):PW R (a::l) (b::m):=by
 refine⟨by simp[hl.1],fun i hi aj=>?_⟩;cases i with
 |zero=>exact h
 |succ i=>exact hl.2 i (by simpa using hi) (by simpa using aj)
end
section
variable{base:Nat}{LC:eN}{g g':Gh}{lb lb':LB}{own aO:OW}{loc:Nat->Option (Nat×κ)}{mem:Mem}{w w':World}
def arr(cur:Array Value)(off:Nat)(vs:List Value):Array Value:=(cur.toList.take off++vs++cur.toList.drop (off+vs.length)).toArray
theorem qj.pw{nm:Own}{b:Nat}{l:List AV}(h:qj g lb own w nm b l):∃a e,w.heap[b]?=some (.cells a e (0,0))/\PW (VR g lb) l a.toList/\∀v∈a.toList,v.oneCell'=true:=by obtain⟨_,_,a,e,h3,h4,h5,h6⟩:=h;refine⟨a,e,h3,⟨by simpa using h4.symm,fun i hi aj=>by simpa using h5 i hi (by simpa using aj)⟩,fun v hv=>?_⟩;obtain⟨i,hi,rfl⟩:=qo.1 hv;simpa using h6 i (by simpa using hi)
theorem qj.store{nm:Own}{b:Nat}{l:List AV}(h:qj g lb own w nm b l){off:Nat}{cs:List AV}{vs:List Value}(cU:PW (VR g lb) cs vs)(h1:∀v∈vs,v.oneCell'=true)
  (hle:off+cs.length<=l.length):
  ∃a e,w.heap[b]?=some (.cells a e (0,0))/\off+vs.length<=a.size/\qj g lb own (w.setRow b (arr a off vs)) nm b (eV l off cs):=by
 obtain⟨a,e,ha,hp,ho⟩:=h.pw;have hl:l.length=a.size:=by simpa using hp.1
 have hc:=cU.1;have x9:PW (VR g lb) (eV l off cs) (a.toList.take off++vs++a.toList.drop (off+vs.length)):=by unfold eV;rw[hc];exact((hp.take off).append cU).append (hp.drop _)
 refine⟨a,e,ha,by omega,h.1,h.2.1,arr a off vs,e,setRow_heap w b a _ e _ ha,?_,?_,?_⟩
 ·simpa[arr]using x9.1.symm
 ·intro i hi aj;have:=x9.2 i hi (by simpa[arr]using aj);simpa[arr]using this
 ·intro i hi;have hm:(arr a off vs)[i]∈(a.toList.take off++vs++a.toList.drop (off+vs.length)):=by simp[arr]
  rcases dE.1 hm with hm|hm
  ·rcases dE.1 hm with hm|hm
   ·exact ho _ (pa hm)
   ·exact h1 _ hm
  ·exact ho _ (qp hm)
theorem a8.setRow_other(h:a8 g own LC mem w){b:Nat}(a:Array Value)(hb:∀id,own b≠some (.m id))(cu:∀o,g.im b o=none):a8 g own LC mem (w.setRow b a):=by
 refine h.bw g.eG (fun _ h=>h) (fun _ _ h=>h) (fun id b' bf=>⟨rfl,Go.setRow_other w b b' a ?_,fun _=>rfl⟩) (fun b' o x hx=>?_)
 ·rintro rfl;exact hb id bf
 ·have ak:b'≠b:=by rintro rfl;rw[cu]at hx;cases hx
  rw[ph (Go.setRow_other w b b' a ak)];exact h.im _ _ _ hx
theorem cA.setRow_other(h:cA g lb own loc w){b:Nat}(a:Array Value)(hb:∀d,own b≠some (.l d)):cA g lb own loc (w.setRow b a):=
 h.bw g.eG fun d b' bf=>⟨rfl,Go.setRow_other w b b' a (by rintro rfl;exact hb d bf),fun _=>rfl⟩
theorem dZ.setRow(g:Gh){own:OW}(w:World){b:Nat}(a:Array Value){o:Own}(hb:own b=some o):dZ g own w g own (w.setRow b a):= {
 sub:=g.eG
 size:=by simp
 os:=rfl
 tape:=rfl
 output:=rfl
 bw b' _ ho:=Go.setRow_other w b b' a (by rintro rfl;rw[hb]at ho;cases ho)
 jO _ _ h:=h
 im _ _ _ _:=rfl}
theorem bV.setRow(h:bV base own w)(b:Nat)(a:Array Value):bV base own (w.setRow b a):=⟨fun b' o hb=>by simpa using h.ge b' o hb,by simpa using h.base⟩
theorem a8.H_(h:a8 g own LC mem w){ye:Nat}{DO:κ}{t:List Nat}(h0:ye<mem.ε.length)(hg:g.sub g')(BX:∀id,g.mb id=none->g'.mb id=none)
  (nJ:∀t n,t≠ye->g.rows t n=none->g'.rows t n=none)
  (hb:∀id b,id≠ye->own b=some (.m id)->aO b=own b/\w'.heap[b]?=w.heap[b]?/\∀o,g'.im b o=g.im b o)
  (sn:sX g' aO LC w' ye DO) (cu:∀b o x,g'.im b o=some x->w'.cell? ⟨b,o,none⟩=some x):
  a8 g' aO LC {ε:=mem.ε.set ye DO,θ:=t} w':= {
 iR id b bf:=by
  simp only[fj];cases hx:g.mb id with
  |none=>rw[BX id hx]at bf;cases bf
  |some c=>exact h.iR id c hx
 na t n x hx:=by
  simp only[fj];by_cases ht:t=ye
  ·subst ht;exact h0
  ·cases hy:g.rows t n with
   |none=>rw[nJ t n ht hy]at hx;cases hx
   |some y=>exact h.na t n y hy
 blk id blk hid:=by
  simp only[List.getElem?_set]at hid;by_cases hi:ye=id
  ·subst hi;rw[if_pos rfl,if_pos h0]at hid;cases hid;exact sn
  ·rw[if_neg hi]at hid;exact(h.blk id blk hid).bw hg (fun b=>hb id b (Ne.symm hi)) (fun n=>nJ id n (Ne.symm hi)) (BX id)
 im:=cu}
theorem M5(hm:a8 g own LC mem w)(hl:cA g lb own loc w)(ho:bV base own w){p:AV}{x:Value}{cs:List AV}{vs:List Value}(hp:VR g lb p x)
  (cU:PW (VR g lb) cs vs) (h1:∀v∈vs,v.oneCell'=true) {u:kZ} {m':Mem} (hr:wr loc mem p cs=some (u,m')):
  ∃(b off:Nat) (a:Array Value) (e:TypeId),x= .pointer (some ⟨b,off,none⟩)/\w.heap[b]?=some (.cells a e (0,0))/\off+vs.length<=a.size∧
   iO base LC g lb own loc w .undef u m' undef (w.setRow b (arr a off vs)):=by
 cases p with
 |ae d v off=>
  cases hp with
  |ae _ _ _ _ b hb=>
  simp only[wr]at hr
  split at hr
  ·rename_i v' l hd;split at hr
   ·rename_i hc;obtain⟨rfl,hle⟩:=hc;simp only[aZ,aN]at hr;obtain⟨rfl,rfl⟩:=hr;obtain⟨b',bf,pA⟩:=hl.cells d _ l hd;rw[hb]at bf;cases bf;obtain⟨a,e,ha,bh,sn⟩:=pA.store cU h1 hle;have ib:=pA.1;refine⟨b,off,a,e,rfl,ha,bh,g,lb,own,.setRow g w _ ib,fun _ _ _ h=>h,.undef _,hm.setRow_other _ (fun id=>by rw[ib];simp) pA.2.1,?_,ho.setRow _ _⟩;refine⟨fun d' i l' je=>?_,fun d' i s pos je=>?_,fun d' i b' bf=>?_⟩
    ·simp only[nk]at je;split at je
     ·rename_i gm;subst gm;cases je;exact⟨b,hb,sn⟩
     ·rename_i gm;obtain⟨b2,k1,k2⟩:=hl.cells d' i l' je;have ak:b2≠b:=by rintro rfl;have:=k2.1;rw[ib]at this;cases this;exact gm rfl
      exact⟨b2,k1,k2.bw g.eG (fun _ _ _ h=>h) rfl (Go.setRow_other w b b2 _ ak) fun _=>rfl⟩
    ·simp only[nk]at je;split at je
     ·cases je
     ·rename_i gm;obtain⟨b2,k1,k2,k3,bs,k4,k5⟩:=hl.iter d' i s pos je;have ak:b2≠b:=by rintro rfl;rw[ib]at k2;cases k2;exact gm rfl
      exact⟨b2,k1,k2,k3,bs,(Go.setRow_other w b b2 _ ak).trans k4,k5⟩
    ·obtain⟨v2,IJ,k1,k2⟩:=hl.vh d' i b' bf;by_cases gm:d=d'
     ·subst gm;rw[hd]at k1;cases k1;exact⟨_,.cells (eV l off cs),by simp[nk],k2⟩
     ·exact⟨v2,IJ,by simp[nk,gm,k1],k2⟩
   ·cases hr
  ·cases hr
 |ν id off=>
  cases hp with
  |ν _ _ _ b hb=>
  simp only[wr]at hr
  split at hr
  ·rename_i l hd;split at hr
   ·rename_i hle;simp only[aZ,aN]at hr;obtain⟨rfl,rfl⟩:=hr;obtain⟨b',bf,pA⟩:=hm.blk id _ hd;rw[hb]at bf;cases bf;have aac:PW (VR g bS) (cs.map mem.φ) vs:=cU.map _ fun _ _ h=>Hz hm h;obtain⟨a,e,ha,bh,sn⟩:=pA.store aac h1 (by simpa using hle);have ib:=pA.1;refine⟨b,off,a,e,rfl,ha,bh,g,lb,own,.setRow g w _ ib,fun _ _ _ h=>h,.undef _,?_,hl.setRow_other _ (fun d=>by rw[ib];simp),ho.setRow _ _⟩;have hid:id<mem.ε.length:=hm.iR id b hb;refine hm.H_ hid g.eG (fun _ h=>h) (fun _ _ _ h=>h) (fun mY b' ak bf=>⟨rfl,Go.setRow_other w b b' _ ?_,fun _=>rfl⟩) ⟨b,hb,sn⟩ (fun b' o x hx=>?_)
    ·rintro rfl;rw[ib]at bf;cases bf;exact ak rfl
    ·have ak:b'≠b:=by rintro rfl;rw[pA.2.1]at hx;cases hx
     rw[ph (Go.setRow_other w b b' _ ak)];exact hm.im _ _ _ hx
   ·cases hr
  ·cases hr
 |_=>simp[wr]at hr
end
def FR(g:Gh)(lb:LB)(sz:Nat)(l:List AV)(vs:List Value):Prop:=
 vs.length=l.length*sz/\(∀e∈l,e.cells.length=sz)/\(∀v∈vs,v.oneCell'=true)∧
  ∀i (h:i<l.length) j (hj:j<l[i].cells.length) (h':i*sz+j<vs.length),VR g lb l[i].cells[j] vs[i*sz+j]
theorem Ha{i j n sz:Nat}(hi:i<n)(hj:j<sz):i*sz+j<n*sz:=by have h1:(i+1)*sz<=n*sz:=rG _ hi;rw[kM]at h1;omega
section
variable{base:Nat}{LC:eN}{g g':Gh}{lb lb':LB}{own aO:OW}{loc:Nat->Option (Nat×κ)}{mem:Mem}{w w':World}
theorem FR.nil(sz:Nat):FR g lb sz [] []:=⟨by simp,by simp,by simp,by simp⟩
theorem FR.append{sz:Nat}{l m:List AV}{vs us:List Value}(h:FR g lb sz l vs)(k:FR g lb sz m us):FR g lb sz (l++m) (vs++us):=by
 refine⟨by simp[h.1,k.1,kM],fun e he=>?_,fun v hv=>?_,fun i hi j hj nG=>?_⟩
 ·rcases dE.1 he with he|he
  ·exact h.2.1 e he
  ·exact k.2.1 e he
 ·rcases dE.1 hv with hv|hv
  ·exact h.2.2.1 v hv
  ·exact k.2.2.1 v hv
 ·rcases bP i l.length with ρ|cG
  ·have e1:(l++m)[i]=l[i]:=AL ρ;have dp:j<l[i].cells.length:=by rw[<-e1];exact hj
   have bh:l[i].cells.length=sz:=h.2.1 _ (cL ρ);have dq:i*sz+j<vs.length:=by rw[h.1];exact Ha ρ (by omega)
   rw[AL dq];have:=h.2.2.2 i ρ j dp dq;simpa only[e1]using this
  ·have e1:(l++m)[i]=m[i-l.length]'(by simp at hi;omega):=AM cG;have dp:j<(m[i-l.length]'(by simp at hi;omega)).cells.length:=by rw[<-e1];exact hj
   have hmul:i*sz=l.length*sz+(i-l.length)*sz:=by rw[<-kM];congr 1;omega
   have B5:vs.length<=i*sz+j:=by rw[h.1,hmul];omega
   have Kt:i*sz+j-vs.length=(i-l.length)*sz+j:=by rw[h.1,hmul];omega
   have dq:(i-l.length)*sz+j<us.length:=by
    have:i*sz+j<vs.length+us.length:=by simpa using nG
    omega
   rw[AM B5];have:=k.2.2.2 (i-l.length) (by simp at hi;omega) j dp dq;simp only[Kt,e1];exact this
theorem FR.mono{sz:Nat}{l:List AV}{vs:List Value}(h:FR g lb sz l vs)(hg:g.sub g')(hl:∀d i b,lb d i=some b->lb' d i=some b):FR g' lb' sz l vs:=
 ⟨h.1,h.2.1,h.2.2.1,fun i hi j hj nG=>(h.2.2.2 i hi j hj nG).mono hg hl⟩
theorem FR.φ{sz:Nat}{l:List AV}{vs:List Value}(hm:a8 g own LC mem w)(h:FR g lb sz l vs):FR g bS sz (l.map mem.φ) vs:=by
 have hc:∀v:AV,(mem.φ v).cells=v.cells.map mem.φ:=fun v=>D6 v;refine⟨by simp[h.1],fun e he=>?_,h.2.2.1,fun i hi j hj nG=>?_⟩
 ·obtain⟨e',fT,rfl⟩:=jy.1 he;rw[hc,dd];exact h.2.1 e' fT
 ·have aj:i<l.length:=by simpa using hi
  have dp:j<l[i].cells.length:=by simpa[hc]using hj
  have:=Hz hm (h.2.2.2 i aj j dp nG);simpa[hc]using this
theorem VR.flat{c:χ}{l:List AV}{x:Value}{sz:Nat}(h:VR g lb (.list c l) x)(bh:∀e∈l,e.cells.length=sz)(ak:l≠[]):
  ∃(b o cap:Nat) (vs:List Value),x= .slice (some ⟨b,o,none⟩) l.length cap/\l.length<=cap/\nw g l.length b o cap c/\FR g bS sz l vs∧
   ∀q v,vs[q]?=some v->g.im b (o+q)=some v:=by
 cases h with
 |iJ=>exact absurd rfl ak
 |gX=>exact absurd rfl ak
 |list _ _ _ b o eW n cap xs hn db hc Cv cu hv=>
  subst hn
  have hs:eW=sz:=by
   cases l with
   |nil=>exact absurd rfl ak
   |cons e l=>rw[<-Cv e (by simp),bh e (by simp)]
  subst hs;have jh:∀q,q<l.length*eW->0<eW:=fun q hq=>by
   rcases Nat.eq_zero_or_pos eW with h|h
   ·rw[h]at hq;simp at hq
   ·exact h
  have hdiv:∀q,q<l.length*eW->q/eW<l.length/\q % eW<eW/\q/eW*eW+q % eW=q:=fun q hq=>⟨Nat.div_lt_of_lt_mul (by rw[ahy];exact hq),Nat.mod_lt _ (jh q hq),by rw[ahy];exact Nat.div_add_mod q eW⟩;refine⟨b,o,cap,(rC (l.length*eW)).map fun q=>xs (q/eW) (q % eW),rfl,db,hc,⟨by simp,bh,fun v mX=>?_,fun i hi j hj nG=>?_⟩,fun q v hq=>?_⟩
  ·obtain⟨q,hq,rfl⟩:=jy.1 mX;obtain⟨k1,k2,k3⟩:=hdiv q (AR.1 hq);exact(cu _ k1 _ k2).2
  ·simp only[iz,Ir];have dp:j<eW:=by rw[<-bh _ (cL hi)];exact hj
   have h1:(i*eW+j)/eW=i:=by rw[ahy,Nat.mul_add_div (by omega),Nat.div_eq_of_lt dp];rfl
   have h2:(i*eW+j) % eW=j:=by rw[ahy,Nat.mul_add_mod,Nat.mod_eq_of_lt dp]
   rw[h1,h2];exact hv i hi j hj
  ·have ρ:q<l.length*eW:=by have:=(kg.1 hq).1;simpa using this
   obtain⟨k1,k2,k3⟩:=hdiv q ρ;simp only[uh,ahw ρ,Option.map_some,aZ]at hq;subst hq;have:=(cu _ k1 _ k2).1;rwa[k3]at this
theorem VR.HE{c:χ}{l:List AV}{sz b o n cap:Nat}{vs:List Value}(h:FR g bS sz l vs)(hn:l.length=n)(db:n<=cap)(hc:nw g n b o cap c)
  (cu:∀q v,vs[q]?=some v->g.im b (o+q)=some v):VR g lb (.list c l) (.slice (some ⟨b,o,none⟩) n cap):=by
 subst hn;have ρ:∀i,i<l.length->∀j,j<sz->i*sz+j<vs.length:=fun i hi j hj=>by rw[h.1];exact Ha hi hj
 refine .list _ c l b o sz _ cap (fun i j=>vs.getD (i*sz+j) Go.undef) rfl db hc h.2.1 (fun i hi j hj=>?_) (fun i hi j hj=>?_)
 ·have hl:=ρ i hi j hj;refine⟨?_,?_⟩
  ·rw[kJ,dr hl];exact cu _ _ (dr hl)
  ·rw[kJ,dr hl];exact h.2.2.1 _ (cL hl)
 ·have dp:j<sz:=by rw[<-h.2.1 _ (cL hi)];exact hj
  have hl:=ρ i hi j dp;rw[kJ,dr hl];exact h.2.2.2 i hi j hj hl
theorem FR.one{v:AV}{x:Value}{sz:Nat}(h:VR g lb v x)(hs:v.cells.length=sz)(h0:0<sz):FR g lb sz [v] x.cells.toList:=by
 obtain⟨h1,h2,h3⟩:=h.cells (by intro hn;rw[hn]at hs;simp at hs;omega);refine⟨by simp[h1,hs],by simp[hs],fun u hu=>?_,fun i hi j hj nG=>?_⟩
 ·obtain⟨i,hi,rfl⟩:=qo.1 hu;simpa using h3 i (by simpa using hi)
 ·have:i=0:=by simpa using hi
  subst this;have:=h2 j (by simpa using hj) (by simp at nG;omega);simpa using this
def Gh.row(g:Gh)(b:Nat)(vs:List Value):Gh:= {g with im:=fun b' o=>if b'=b then vs[o]? else g.im b' o}
theorem TH{b:Nat}{vs:List Value}(h:∀o,g.im b o=none):g.sub (g.row b vs):=
 ⟨fun b' o x hx=>(by
  simp only[Gh.row];rw[if_neg]
  ·exact hx
  ·rintro rfl;rw[h]at hx;cases hx),fun _ _ h=>h,fun _ _ _ h=>h⟩
theorem afu(hm:a8 g own LC mem w)(hl:cA g lb own loc w)(ho:bV base own w){l:List AV}{a:Array Value}{sz:Nat}{e:TypeId}(hf:FR g bS sz l a.toList):
  iO base LC g lb own loc w (.list .full l) none mem (.slice (some ⟨w.heap.size,0,none⟩) l.length l.length) (w.alloc (.cells a e)):=by
 have hn:=wv hm;have dH:g.sub (g.row w.heap.size a.toList):=TH hn;have ψ:=dZ.alloc g own w (.cells a e) none;have B8:∀b o,own b=some o->∀q,(g.row w.heap.size a.toList).im b q=g.im b q:=fun b o hb q=>by simp[Gh.row,yy ho hb]
 have ly:=hm.alloc ho (.cells a e) none;refine⟨g.row w.heap.size a.toList,lb,_,⟨dH,ψ.size,ψ.os,ψ.tape,ψ.output,ψ.bw,ψ.jO,fun b hb _ q=>by simp only[Gh.row];rw[if_neg (by omega)]⟩,
  fun _ _ _ h=>h,?_,?_,?_,ho.alloc _ _⟩
 ·refine VR.HE (hf.mono dH (fun _ _ _ h=>by cases h)) rfl (bF _) rfl (fun q v hq=>?_);simp only[Gh.row,jz,if_true];exact hq
 ·refine ly.bw dH (fun _ h=>h) (fun _ _ h=>h) (fun id b hb=>⟨rfl,rfl,?_⟩) (fun b o x hx=>?_)
  ·have bf:own b=some (.m id):=by
    simp only[gq]at hb;split at hb
    ·cases hb
    ·exact hb
   exact B8 b _ bf
  ·simp only[Gh.row]at hx;split at hx
   ·rename_i gh;subst gh;simp only[ti,pB];simpa using hx
   ·exact ly.im b o x hx
 ·refine(hl.alloc ho (.cells a e) none).bw dH (fun d b hb=>⟨rfl,rfl,?_⟩);have bf:own b=some (.l d):=by
   simp only[gq]at hb;split at hb
   ·cases hb
   ·exact hb
  exact B8 b _ bf
end
section
variable{P:Program}{base:Nat}{LC:eN}{g g':Gh}{lb lb':LB}{own aO:OW}{loc:Nat->Option (Nat×κ)}{mem:Mem}{w w':World}
def Gh.grow(g:Gh)(t k b cap:Nat):Gh:= {g with rows:=fun t' k'=>if t'=t/\k'=k then some (b,cap)else g.rows t' k'}
theorem Qh{t k b cap:Nat}(h:g.rows t k=none):g.sub (g.grow t k b cap):=
 ⟨fun _ _ _ h=>h,fun _ _ h=>h,fun t' k' x hx=>(by
  simp only[Gh.grow];rw[if_neg]
  ·exact hx
  ·rintro⟨rfl,rfl⟩;rw[h]at hx;cases hx)⟩
theorem zC(hm:a8 g own LC mem w)(hl:cA g lb own loc w)(ho:bV base own w){t n sz cap:Nat}{e:TypeId}{l:List AV}{vs:List Value}{rest:Array Value}{m':Mem}
  (hf:FR g bS sz l vs) (hn:l.length=n) (h0:0<sz) (db:n<=cap) (G3:rest.size=(cap-n)*sz) (nJ:∀m x,g.rows t m=some x->m<n) (iT:g.mb t=none)
  (ly:(t=mem.ε.length/\m'=mem.push (.front n sz e))\/(t<mem.ε.length/\m'=mem.put t (.front n sz e) true)):
  iO base LC g lb own loc w (.list (.own t) l) none m' (.slice (some ⟨w.heap.size,0,none⟩) n cap) (w.drew.alloc (.cells (vs.toArray++rest) e)):=by
 refine iO.drew ?_;have xV:=hm.drew;have xQ:=hl.drew;have Ch:=ho.drew;have bh:w.heap.size=w.drew.heap.size:=rfl;rw[bh];generalize w.drew=w at*;clear hm hl ho;have uG:=wv xV;have K0:g.rows t n=none:=by
  cases hx:g.rows t n with
  |none=>rfl
  |some x=>have:=nJ n x hx;omega
 let o:=Obj.cells (vs.toArray++rest) e;let g1:=g.row w.heap.size vs;let g':=g1.grow t n w.heap.size cap;have ot:g.sub g1:=TH uG;have dH:g.sub g':=Gh.Di ot (Qh (by exact K0));have ψ:=dZ.alloc g own w o (some (.m t));have Rb:∀b o',own b=some o'->∀q,g'.im b q=g.im b q:=fun b o' hb q=>by simp[g',g1,Gh.grow,Gh.row,yy Ch hb]
 have hlen:vs.length=n*sz:=by rw[<-hn];exact hf.1
 have B8:∀id b,own b=some (.m id)->gq own w.heap.size (some (.m t)) b=own b/\(w.alloc o).heap[b]?=w.heap[b]?/\∀q,g'.im b q=g.im b q:=
  fun id b hb=>⟨by simp[gq,yy Ch hb],tE w o (Ch.ge b _ hb).2,Rb b _ hb⟩
 have cu:∀b q x,g'.im b q=some x->(w.alloc o).cell? ⟨b,q,none⟩=some x:=by
  intro b q x hx;have gn:(if b=w.heap.size then vs[q]? else g.im b q)=some x:=hx;split at gn
  ·rename_i gh;subst gh;simp only[ti,o,pB];have hq:q<vs.length:=(kg.1 gn).1;rw[Array.getElem?_append_left (by simpa using hq)];simpa using gn
  ·have:=xV.im b q x gn;rw[ph (tE w o (vB this))];exact this
 have gi:sX g' (gq own w.heap.size (some (.m t))) LC (w.alloc o) t (.front n sz e):=by
  refine⟨h0,w.heap.size,cap,by simp[g',Gh.grow],db,by simp[gq],⟨_,pB w o,?_⟩,fun q hq=>?_,fun m x hx=>?_,iT⟩
  ·simp only[Array.size_append,List.size_toArray,hlen,G3,<-kM];congr 1;omega
  ·show(if w.heap.size=w.heap.size then vs[q]? else _)=none;rw[if_pos rfl,gZ (by omega)]
  ·simp only[g',Gh.grow]at hx;split at hx
   ·rename_i h;omega
   ·exact yR (nJ m x hx)
 refine⟨g',lb,gq own w.heap.size (some (.m t)),⟨dH,ψ.size,ψ.os,ψ.tape,ψ.output,ψ.bw,ψ.jO,fun b hb _ q=>?_⟩,fun _ _ _ h=>h,?_,?_,?_,Ch.alloc _ _⟩
 ·simp only[g',g1,Gh.grow,Gh.row];rw[if_neg (by omega)]
 ·refine VR.HE (hf.mono dH (fun _ _ _ h=>by cases h)) hn db ⟨rfl,by simp[g',Gh.grow]⟩ (fun q v hq=>?_);show(if w.heap.size=w.heap.size then vs[0+q]? else _)=some v;rw[if_pos rfl,jz];exact hq
 ·rcases ly with⟨ht,rfl⟩|⟨ht,rfl⟩
  ·have hk:a8 g own LC mem w:=xV;refine⟨fun id b hb=>?_,fun t' k x hx=>?_,fun id blk hid=>?_,cu⟩
   ·have:=xV.iR id b hb;simp only[Mem.push,fu,eZ,lK];omega
   ·simp only[Mem.push,fu,eZ,lK];simp only[g',g1,Gh.grow,Gh.row]at hx;split at hx
    ·omega
    ·have:=xV.na t' k x hx;omega
   ·simp only[Mem.push]at hid;rcases bP id mem.ε.length with ρ|cG
    ·rw[dX ρ]at hid;refine(xV.blk id blk hid).bw dH (B8 id) (fun k hk=>?_) (fun h=>h);simp only[g',g1,Gh.grow,Gh.row];rw[if_neg (by omega)];exact hk
    ·rw[s8 cG]at hid;have:id=mem.ε.length:=by
      rcases bP 0 (id-mem.ε.length)with h0|h0
      ·rw[gZ (by simp;omega)]at hid;cases hid
      ·omega
     subst this;simp at hid;subst hid;rw[<-ht];exact gi
  ·refine xV.H_ ht dH (fun _ h=>h) (fun t' k ak hk=>?_) (fun id b _ hb=>B8 id b hb) gi cu;simp only[g',g1,Gh.grow,Gh.row];rw[if_neg (by omega)];exact hk
 ·exact(xQ.alloc Ch o (some (.m t))).bw dH fun d b hb=>⟨rfl,rfl,by
   have bf:own b=some (.l d):=by
    simp only[gq]at hb;split at hb
    ·cases hb
    ·exact hb
   exact Rb b _ bf⟩
theorem TF(hm:a8 g own LC mem w)(hl:cA g lb own loc w)(ho:bV base own w){t n k sz cap b:Nat}{e:TypeId}{l m:List AV}{vs us:List Value}{cur:Array Value}
  (hf:FR g bS sz l vs) (hk:FR g bS sz m us) (hn:l.length=n) (uN:m.length=k) (qP:0<k) (tK:n+k<=cap) (gi:mem.ε[t]?=some (.front n sz e)) (dw:g.rows t n=some (b,cap))
  (Ku:∀q v,vs[q]?=some v->g.im b q=some v) (uE:w.heap[b]?=some (.cells cur e (0,0))):
  n*sz+us.length<=cur.size/\iO base LC g lb own loc w (.list (.own t) (l++m)) none (mem.put t (.front (n+k) sz e) true) (.slice (some ⟨b,0,none⟩) (n+k) cap) (w.setRow b (arr cur (n*sz) us)):=by
 obtain⟨h0,b',Pf,h1,h2,h3,⟨a,h4,h5⟩,h6,h7,h8⟩:=hm.blk t _ gi;rw[dw]at h1;cases h1;rw[uE]at h4;cases h4;have hul:us.length=k*sz:=by rw[<-uN];exact hk.1
 have uQ:vs.length=n*sz:=by rw[<-hn];exact hf.1
 have vW:n*sz+us.length<=cur.size:=by rw[hul,h5,<-kM];exact rG _ tK
 refine⟨vW,?_⟩;have wm:t<mem.ε.length:=(kg.1 gi).1;have K0:g.rows t (n+k)=none:=by
  cases hx:g.rows t (n+k)with
  |none=>rfl
  |some x=>have:=h7 _ x hx;omega
 let g1:Gh:= {g with im:=fun b' q=>if b'=b then(if n*sz<=q/\q<n*sz+us.length then us[q-n*sz]? else g.im b q)else g.im b' q};let g':=g1.grow t (n+k) b cap;have ot:g.sub g1:=⟨fun b' q x hx=>(by
  simp only[g1]
  split
  ·rename_i gh;subst gh;rw[if_neg]
   ·exact hx
   ·rintro⟨hq,_⟩;rw[h6 q hq]at hx;cases hx
  ·exact hx),fun _ _ h=>h,fun _ _ _ h=>h⟩
 have dH:g.sub g':=Gh.Di ot (Qh (by exact K0));have ψ:=dZ.setRow g w (arr cur (n*sz) us) h3;have iU:∀b',b'≠b->∀q,g'.im b' q=g.im b' q:=fun b' ak q=>by simp[g',g1,Gh.grow,ak]
 have Yj:(arr cur (n*sz) us).size=cur.size:=by simp[arr];omega
 have cu:∀b' q x,g'.im b' q=some x->(w.setRow b (arr cur (n*sz) us)).cell? ⟨b',q,none⟩=some x:=by
  intro b' q x hx;by_cases gh:b'=b
  ·subst gh;simp only[ti,setRow_heap w b' cur _ e _ uE];have gn:(if n*sz<=q/\q<n*sz+us.length then us[q-n*sz]? else g.im b' q)=some x:=by simpa[g',g1,Gh.grow]using hx
   simp only[Iv,gY,if_false];split at gn
   ·rename_i hq;have:(arr cur (n*sz) us)[q]?=us[q-n*sz]?:=by
     have ZO:min (n*sz) cur.size=n*sz:=by omega
     simp only[arr,Iq];rw[cj,s8 (by simp;omega),dX (by simp;omega)];simp[ZO]
    rw[this];exact gn
   ·rename_i hq;have x5:q<n*sz:=by
     rcases bP q (n*sz)with h|h
     ·exact h
     ·rw[h6 q h]at gn;cases gn
    have hold:=hm.im _ _ _ gn;simp only[ti,uE,Iv,gY,if_false]at hold;have:(arr cur (n*sz) us)[q]?=cur[q]?:=by simp only[arr,Iq];rw[cj,dX (by simp;omega)];simp[x5]
    rw[this];exact hold
  ·rw[iU b' gh]at hx;rw[ph (Go.setRow_other w b b' _ gh)];exact hm.im _ _ _ hx
 refine⟨g',lb,own,⟨dH,ψ.size,ψ.os,ψ.tape,ψ.output,ψ.bw,ψ.jO,fun b' _ zF q=>iU b' (by rintro rfl;rw[h3]at zF;cases zF) q⟩,fun _ _ _ h=>h,?_,?_,?_,ho.setRow _ _⟩
 ·refine VR.HE (sz:=sz) ((hf.append hk).mono dH (fun _ _ _ h=>by cases h)) (by simp[hn,uN]) tK ⟨rfl,by simp[g',Gh.grow]⟩ (fun q v hq=>?_);rw[jz];show(if b=b then _ else _)=some v;rw[if_pos rfl];rcases bP q vs.length with ρ|cG
  ·rw[dX ρ]at hq;rw[if_neg (by omega)];exact Ku q v hq
  ·rw[s8 cG]at hq;have Rf:q-vs.length<us.length:=(kg.1 hq).1;rw[if_pos (by omega),<-uQ];exact hq
 ·refine hm.H_ wm dH (fun _ h=>h) (fun t' k' ak da=>?_) (fun id b' ak bf=>?_) ?_ cu
  ·simp only[g',g1,Gh.grow];rw[if_neg (by omega)];exact da
  ·have rZ:b'≠b:=by rintro rfl;rw[h3]at bf;cases bf;exact ak rfl
   exact⟨rfl,Go.setRow_other w b b' _ rZ,iU b' rZ⟩
  ·refine⟨h0,b,cap,by simp[g',Gh.grow],tK,h3,⟨_,setRow_heap w b cur _ e _ uE,by rw[Yj];exact h5⟩,fun q hq=>?_,fun m' x hx=>?_,h8⟩
   ·show(if b=b then _ else _)=none;rw[kM]at hq;rw[if_pos rfl,if_neg (by omega)];exact h6 q (by omega)
   ·simp only[g',g1,Gh.grow]at hx;split at hx
    ·rename_i h;omega
    ·have:=h7 m' x hx;omega
 ·exact hl.bw dH fun d b' bf=>by
   have rZ:b'≠b:=by rintro rfl;rw[h3]at bf;cases bf
   exact⟨rfl,Go.setRow_other w b b' _ rZ,iU b' rZ⟩
theorem ML{ag:Bool}{sz:Nat}{v:AV}(h:shaped ag sz v=true):v.cells.length=sz:=by cases v<;>simp_all [shaped,AV.cells,AV.one]
theorem U8(hm:a8 g own LC mem w)(hl:cA g lb own loc w)(ho:bV base own w){x y:AV}{xv yv:Value}(hx:VR g lb x xv)(hy:VR g lb y yv)
  {t ty e:TypeId} {i:TypeInfo} {z:Value} (ht:P.underlying t=some (.slice e)) (hi:P.info? e=some i) (hz:i.zero=some z) (mE:z.cells.size=i.size)
  {ag:Bool} {v:AV} {m':Mem} (hr:f_ mem ag i.size i.bytes e x y=some (v,m')):
  ∃(xr:Value) (w':World),(Builtin.append_ #[t,t] ty #[xv,yv]).run P w= .ok xr w'/\iO base LC g lb own loc w v none m' xr w':=by
 unfold f_ at hr;split at hr
 ·rename_i c l c' m;split at hr
  ·rename_i jG;simp only[jv,List.all_eq_true,decide_eq_true_eq]at jG;obtain⟨⟨⟨⟨nH,oc⟩,h0⟩,xI⟩,hlen⟩:=jG;have ZQ:∀e∈m,e.cells.length=i.size:=fun e he=>ML (nH e he);have Q0:∀e∈l,e.cells.length=i.size:=fun e he=>ML (oc e he);by_cases xW:m=[]
   ·subst xW;have hv:v= .list c l/\m'=mem:=by cases c<;>simp only[aZ,aN]at hr<;>exact⟨hr.1.symm,hr.2.symm⟩
    obtain⟨rfl,rfl⟩:=hv;refine⟨xv,w,?_,iO.pure hm hl ho hx⟩;have Lq:∃a cp,yv= .slice a 0 cp:=by
     cases hy with
     |iJ=>exact⟨_,_,rfl⟩
     |gX=>exact⟨_,_,rfl⟩
     |list _ _ _ b o sz n cap xs hn=>simp at hn;subst hn;exact⟨_,_,rfl⟩
    obtain⟨a,cp,rfl⟩:=Lq;have Lm:∃a n cp,xv= .slice a n cp/\n<=cp:=by
     cases hx with
     |iJ=>exact⟨_,_,_,rfl,bF _⟩
     |gX=>exact⟨_,_,_,rfl,Nat.zero_le _⟩
     |list _ _ _ b o sz n cap xs hn db=>exact⟨_,_,_,rfl,db⟩
    obtain⟨a',n,dJ,rfl,hle⟩:=Lm;cases a<;>cases a'<;>simp[Builtin.append_,run_underlying ht,sizeOf,typeInfo,hi,Builtin.lenOf,Builtin.firstCells,loadCells,loadCellsFrom,hle,storeCells]
   ·have GU:0<m.length:=by cases m with|nil=>exact absurd rfl xW|cons=>simp
    obtain⟨yb,yo,wU,us,rfl,-,-,lT,Zi⟩:=hy.flat ZQ xW;have wg:∀j u,us[j]?=some u->w.cell? ((⟨yb,yo,none⟩:Addr).add j)=some u:=fun j u hj=>by rw[Addr.add_mid];exact hm.im _ _ _ (Zi j u hj)
    have vX:=lT.φ hm;have xR:((l.length+m.length:Nat):Int)<=9223372036854775807:=by omega
    cases c with
    |any=>
     cases m with
     |nil=>exact absurd rfl xW
     |cons=>cases hr
    |full=>
     have gW:v= .list (.own mem.ε.length) (l++m.map mem.φ)/\m'=mem.push (.front (l.length+m.length) i.size e):=by
      cases m with
      |nil=>exact absurd rfl xW
      |cons=>simp only[aZ,aN]at hr;exact⟨hr.1.symm,hr.2.symm⟩
     obtain⟨rfl,rfl⟩:=gW;have nJ:∀k x,g.rows mem.ε.length k=some x->k<l.length+m.length:=fun k x hx=>absurd (hm.na _ _ _ hx) (ahx _);have iT:g.mb mem.ε.length=none:=by
      cases hx:g.mb mem.ε.length with
      |none=>rfl
      |some b=>exact absurd (hm.iR _ _ hx) (ahx _)
     by_cases hle:l=[]
     ·subst hle;have Lm:(xv= .slice none 0 0)\/(∃ad,xv= .slice (some ad) 0 0):=by
       cases hx with
       |gX _ _ ad cap hc=>
        rcases hc with hc|⟨_,hc⟩
        ·cases hc
        ·exact .inr ⟨ad,by rw[hc]⟩
       |list _ _ _ b o sz n cap xs hn db hc=>simp at hn;subst hn;exact .inr ⟨⟨b,o,none⟩,by simp only[nw]at hc;subst hc;rfl⟩
      simp only[lK,jz,cI]at xI xR nJ⊢;rcases Lm with rfl|⟨ad,rfl⟩
      ·refine⟨_,_,run_append_nil (P:=P) w t ty e i z ht hi hz ⟨yb,yo,none⟩ m.length wU us lT.1 wg GU xR (by omega),?_⟩;have:=zC (m':=mem.push (.front m.length i.size e)) hm hl ho (rest:=Builtin.zeroCells z.cells (grownCap w m.length 0 e-m.length)) vX (by simp) h0 (grownCap_ge w m.length 0 e) (by rw[size_zeroCells,mE]) nJ iT (.inl ⟨rfl,rfl⟩);exact this
      ·have hg:=run_append_grow (P:=P) w t ty e i z ht hi hz ad 0 0 [] (by simp) (by simp) ⟨yb,yo,none⟩ m.length wU us lT.1 wg (by omega) (by omega) (growslice_fits (by omega) (by simpa using xI));refine⟨_,_,hg,?_⟩;simp only[jz];have:=zC (m':=mem.push (.front m.length i.size e)) hm hl ho (rest:=Builtin.zeroCells z.cells (grownCap w m.length 0 e-m.length)) vX (by simp) h0 (grownCap_ge w m.length 0 e) (by rw[size_zeroCells,mE]) nJ iT (.inl ⟨rfl,rfl⟩);simpa using this
     ·obtain⟨b,o,cap,vs,rfl,-,hc,oR,vZ⟩:=hx.flat Q0 hle;simp only[nw]at hc;subst hc;have holds:∀j u,vs[j]?=some u->w.cell? ((⟨b,o,none⟩:Addr).add j)=some u:=fun j u hj=>by rw[Addr.add_mid];exact hm.im _ _ _ (vZ j u hj)
      have hg:=run_append_grow (P:=P) w t ty e i z ht hi hz ⟨b,o,none⟩ l.length l.length vs oR.1 holds ⟨yb,yo,none⟩ m.length wU us lT.1 wg (by omega) xR (growslice_fits (by omega) xI);refine⟨_,_,hg,?_⟩;have:=zC (m':=mem.push (.front (l.length+m.length) i.size e)) hm hl ho (rest:=Builtin.zeroCells z.cells (grownCap w (l.length+m.length) l.length e-(l.length+m.length))) (oR.append vX) (by simp) h0 (grownCap_ge w _ _ e) (by rw[size_zeroCells,mE]) nJ iT (.inl ⟨rfl,rfl⟩);simpa using this
    |nil=>
     have gW:v= .list (.own mem.ε.length) (l++m.map mem.φ)/\m'=mem.push (.front (l.length+m.length) i.size e):=by
      cases m with
      |nil=>exact absurd rfl xW
      |cons=>simp only[aZ,aN]at hr;exact⟨hr.1.symm,hr.2.symm⟩
     obtain⟨rfl,rfl⟩:=gW;have nJ:∀k x,g.rows mem.ε.length k=some x->k<l.length+m.length:=fun k x hx=>absurd (hm.na _ _ _ hx) (ahx _);have iT:g.mb mem.ε.length=none:=by
      cases hx:g.mb mem.ε.length with
      |none=>rfl
      |some b=>exact absurd (hm.iR _ _ hx) (ahx _)
     obtain⟨rfl,rfl⟩:l=[]/\xv= .slice none 0 0:=by
      cases hx with
      |iJ=>exact⟨rfl,rfl⟩
      |gX _ _ a cap hc=>rcases hc with hc|⟨hc,_⟩<;>cases hc
      |list _ _ _ b o sz n cap xs hn db hc=>exact hc.elim
     simp only[lK,jz,cI]at xI xR nJ⊢;refine⟨_,_,run_append_nil (P:=P) w t ty e i z ht hi hz ⟨yb,yo,none⟩ m.length wU us lT.1 wg GU xR (by omega),?_⟩;exact zC (m':=mem.push (.front m.length i.size e)) hm hl ho (rest:=Builtin.zeroCells z.cells (grownCap w m.length 0 e-m.length)) vX (by simp) h0 (grownCap_ge w m.length 0 e) (by rw[size_zeroCells,mE]) nJ iT (.inl ⟨rfl,rfl⟩)
    |own tg=>
     have gW:mem.ε[tg]?=some (.front l.length i.size e)/\v= .list (.own tg) (l++m.map mem.φ)/\m'=mem.put tg (.front (l.length+m.length) i.size e) true:=by
      cases m with
      |nil=>exact absurd rfl xW
      |cons a m=>
       simp only[]at hr
       split at hr
       ·rename_i gi;split at hr
        ·rename_i hc;obtain⟨rfl,rfl,rfl⟩:=hc;simp only[aZ,aN]at hr;exact⟨gi,hr.1.symm,hr.2.symm⟩
        ·cases hr
       ·cases hr
     obtain⟨gi,rfl,rfl⟩:=gW;have wm:tg<mem.ε.length:=(kg.1 gi).1;obtain⟨-,b1,agY,pQ,Yu,ahh,⟨cur,uE,QG⟩,ahb,KG,iT⟩:=hm.blk tg _ gi;by_cases hle:l=[]
     ·subst hle;cases hx with
      |gX _ _ a cap hc=>rcases hc with hc|⟨hc,_⟩<;>cases hc
      |list _ _ _ b o sz n cap xs hn db hc=>
       simp at hn;subst hn
       obtain⟨rfl,dw⟩:=hc;simp only[lK]at pQ;rw[dw]at pQ;simp only[aZ,aN]at pQ;obtain⟨rfl,rfl⟩:=pQ;simp only[lK,jz,cI]at xI xR KG gi Yu⊢;by_cases tK:m.length<=cap
       ·obtain⟨vW,pN⟩:=TF hm hl ho (FR.nil i.size) vX (by simp) (by simp) GU (by omega) gi dw (by simp) uE;simp only[Nat.zero_mul,jz,cI]at vW pN;have hg:=run_append_room (P:=P) w t ty e i ht hi b 0 cap cur uE ⟨yb,yo,none⟩ m.length wU us lT.1 wg lT.2.2.1 (by omega) (by omega);simp only[jz,Nat.zero_mul]at hg;have he:arr cur 0 us=(List.take 0 cur.toList++us++List.drop us.length cur.toList).toArray:=by simp[arr]
        rw[<-he]at hg;exact⟨_,_,hg,pN⟩
       ·have hg:=run_append_grow (P:=P) w t ty e i z ht hi hz ⟨b,0,none⟩ 0 cap [] (by simp) (by simp) ⟨yb,yo,none⟩ m.length wU us lT.1 wg (by omega) (by omega) (growslice_fits (by omega) (by simpa using xI));refine⟨_,_,hg,?_⟩;simp only[jz];have:=zC (m':=mem.put tg (.front m.length i.size e) true) hm hl ho (rest:=Builtin.zeroCells z.cells (grownCap w m.length cap e-m.length)) vX (by simp) h0 (grownCap_ge w m.length cap e) (by rw[size_zeroCells,mE]) (fun k x hk=>by have:=KG k x hk;omega) iT (.inr ⟨wm,rfl⟩);simpa using this
     ·obtain⟨b,o,cap,vs,rfl,-,hc,oR,vZ⟩:=hx.flat Q0 hle;obtain⟨rfl,dw⟩:=hc;rw[dw]at pQ;simp only[aZ,aN]at pQ;obtain⟨rfl,rfl⟩:=pQ;by_cases tK:l.length+m.length<=cap
      ·obtain⟨vW,pN⟩:=TF hm hl ho oR vX rfl (by simp) GU tK gi dw (fun q v hq=>by simpa using vZ q v hq) uE;have hg:=run_append_room (P:=P) w t ty e i ht hi b l.length cap cur uE ⟨yb,yo,none⟩ m.length wU us lT.1 wg lT.2.2.1 tK vW;exact⟨_,_,hg,pN⟩
      ·have holds:∀j u,vs[j]?=some u->w.cell? ((⟨b,0,none⟩:Addr).add j)=some u:=fun j u hj=>by rw[Addr.add_mid];exact hm.im _ _ _ (vZ j u hj)
       have hg:=run_append_grow (P:=P) w t ty e i z ht hi hz ⟨b,0,none⟩ l.length cap vs oR.1 holds ⟨yb,yo,none⟩ m.length wU us lT.1 wg (by omega) xR (growslice_fits (by omega) xI);refine⟨_,_,hg,?_⟩;have:=zC (m':=mem.put tg (.front (l.length+m.length) i.size e) true) hm hl ho (rest:=Builtin.zeroCells z.cells (grownCap w (l.length+m.length) cap e-(l.length+m.length))) (oR.append vX) (by simp) h0 (grownCap_ge w _ _ e) (by rw[size_zeroCells,mE]) (fun k x hk=>by have:=KG k x hk;omega) iT (.inr ⟨wm,rfl⟩);simpa using this
  ·cases hr
 ·cases hr
end
end Go.ah
