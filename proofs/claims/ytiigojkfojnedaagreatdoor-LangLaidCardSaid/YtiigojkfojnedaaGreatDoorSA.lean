import Derived.OrdersIn
import Derived.LoopNIn
import Derived.Deep.MidRow
import Derived.Below
import Derived.Laws.StructEq
import Derived.Laws.Build
set_option linter.all false
set_option maxRecDepth 100000
set_option maxHeartbeats 8000000
open Nat renaming min->alq,le_refl->bS,lt_of_lt_of_le->ku,lt_or_ge->da,lt_irrefl->alu,le_of_lt->Ax,mul_le_mul_right->mD,add_mul->kK,mul_comm->alv,zero_add->lF,zero_le->tY,zero_mul->alx,add_assoc->rz,add_zero->qu
open Option renaming map_eq_some_iff->bD,map_some->qx,isSome_none->alw,map_none->alB
open List renaming map_cons->az,map_nil->aJ,getElem_map->ja,mem_map->eP,length_map->cg,getElem_cons_zero->kJ,getElem?_take->Ar,getElem?_drop->alr,getElem_take->Cs,getElem_drop->yg,mem_of_mem_drop->tW,mem_of_mem_take->qt,mem_iff_getElem->pG,range->ry,getElem?_map->lB,getElem?_eq_none->h_,getElem?_range->als,getElem_range->Kd,mem_range->Av,length_append->cI,length_cons->cD,length_nil->eO,getElem?_append_left->ek,getElem?_append_right->tV,getElem_append_left->ye,getElem_append_right->yf,drop_take->Aq,take_of_length_le->fo,mem_append->dT,length_set->nq,getElem_mem->c_,getElem?_eq_some_iff->fB,getD_eq_getElem?_getD->nT,getElem?_eq_getElem->dn,getElem?_toArray->Kc,append_assoc->bO,all_eq_true->dO,nil_append->bE,extract_eq_take_drop->Qe,drop_of_length_le->alC,map_map->cT,length_eraseIdx_of_lt->alG
open Bool renaming and_eq_true->ej,false_eq_true->jV,or_eq_true->ya,and_self->wD
open Go.World renaming cell?->sN
open Array renaming getElem_toList->mz,getElem?_eq_some_iff->An,toList_extract->aly,length_toList->wC,foldl_toList->alz,toList_zipIdx->alA,getElem?_eq_getElem->wz,range->alD,toArray_toList->u7,getElem?_setIfInBounds_ne->J4,getElem_push->alE,eraseIdxIfInBounds->alF
open Option.some renaming injEq->bh
open Prod.mk renaming injEq->aA
namespace Go.Θ
inductive ρ
 |nil
 |any
 |full
 |own (t:Nat)
 deriving DecidableEq
inductive AV
 |undef
 |cY
 |int (k:IntKind) (n:Int)
 |bool (b:Bool)
 |str (s:List Nat)
 |iW
 |aj (d v off:Nat)
 |μ (id off:Nat)
 |ref (l:List AV)
 |list (c:ρ) (l:List AV)
 |sl (kd id off n cap:Nat)
 |agg (l:List AV)
 |aQ (l:List AV)
 |fn (f:Fn) (first cap:List AV)
 |fX
 |iface (t:TypeId) (v:AV)
 |gy
 |map (id:Nat)
 |gZ
 deriving Inhabited
def AV.cells:AV->List AV
 | .agg l=>l
 | .aQ _=>[]
 | .undef=>[]
 |v=>[v]
def AV.one:AV->Bool
 | .agg _=>false
 | .aQ _=>false
 | .undef=>false
 |_=>true
mutual
def AV.beq:AV->AV->Bool
 | .undef,.undef=>true
 | .cY,.cY=>true
 | .int k n,.int k' n'=>decide (k=k')&&decide (n=n')
 | .bool b,.bool b'=>b==b'
 | .str s,.str s'=>decide (s=s')
 | .iW,.iW=>true
 | .aj d v o,.aj d' v' o'=>decide (d=d')&&decide (v=v')&&decide (o=o')
 | .μ d o,.μ d' o'=>decide (d=d')&&decide (o=o')
 | .ref l,.ref l'=>AV.gK l l'
 | .list c l,.list c' l'=>decide (c=c')&&AV.gK l l'
 | .sl kd i o n c,.sl kd' i' o' n' c'=>decide (kd=kd')&&decide (i=i')&&decide (o=o')&&decide (n=n')&&decide (c=c')
 | .agg l,.agg l'=>AV.gK l l'
 | .aQ l,.aQ l'=>AV.gK l l'
 | .fn f a b,.fn f' a' b'=>decide (f=f')&&AV.gK a a'&&AV.gK b b'
 | .fX,.fX=>true
 | .iface t v,.iface t' v'=>decide (t=t')&&AV.beq v v'
 | .gy,.gy=>true
 | .map i,.map i'=>decide (i=i')
 | .gZ,.gZ=>true
 |_,_=>false
def AV.gK:List AV->List AV->Bool
 |[],[]=>true
 |a::l,b::l'=>AV.beq a b&&AV.gK l l'
 |_,_=>false
end
def ρ.exp(n:Nat)(k:Bool):ρ->ρ
 | .own t=>if k&&decide (t<n)then .own t else .any
 | .full=>if k then .full else .any
 | .any=> .any
 | .nil=> .nil
def Fn.below(n:Nat):Fn->Bool
 | .func _=>true
 | .methodOf _ _=>true
 | .yield l=>decide (l<n)
 |_=>false
mutual
def exp(n:Nat)(k:Bool):AV->AV
 | .aj _ _ _=> .cY
 | .μ id off=>if id<n then .μ id off else .cY
 | .ref l=> .ref (aX n k l)
 | .list c l=> .list (c.exp n k) (aX n k l)
 | .sl kd id off m cap=>if id<n then .sl kd id off m cap else .cY
 | .agg l=> .agg (aX n k l)
 | .aQ l=> .aQ (aX n k l)
 | .fn f a b=>if Fn.below n f then .fn f (aX n k a) (aX n k b)else .cY
 | .iface t v=> .iface t (exp n k v)
 | .map id=>if id<n then .map id else .cY
 |v=>v
def aX(n:Nat)(k:Bool):List AV->List AV
 |[]=>[]
 |v::l=>exp n k v::aX n k l
end
mutual
def ν:AV->AV
 | .aj _ _ _=> .cY
 | .ref l=> .ref (cw l)
 | .list c l=> .list c (cw l)
 | .agg l=> .agg (cw l)
 | .aQ l=> .aQ (cw l)
 | .fn f a b=> .fn f (cw a) (cw b)
 | .iface t v=> .iface t (ν v)
 |v=>v
def cw:List AV->List AV
 |[]=>[]
 |v::l=>ν v::cw l
end
mutual
def fK(n:Nat)(hp:Nat->Nat->AV)(hs:Nat->Nat->Nat->Nat->AV):AV->AV
 | .aj _ _ _=> .cY
 | .μ id off=>if id<n then .μ id off else hp id off
 | .ref l=> .ref (oT n hp hs l)
 | .list c l=> .list (c.exp n false) (oT n hp hs l)
 | .sl kd id off m cap=>if id<n then .sl kd id off m cap else hs kd id off m
 | .agg l=> .agg (oT n hp hs l)
 | .aQ l=> .aQ (oT n hp hs l)
 | .fn f a b=>if Fn.below n f then .fn f (oT n hp hs a) (oT n hp hs b)else .cY
 | .iface t v=> .iface t (fK n hp hs v)
 | .map id=>if id<n then .map id else .cY
 |v=>v
def oT(n:Nat)(hp:Nat->Nat->AV)(hs:Nat->Nat->Nat->Nat->AV):List AV->List AV
 |[]=>[]
 |v::l=>fK n hp hs v::oT n hp hs l
end
def chunk(s:Nat):Nat->List AV->List AV
 |0,_=>[]
 |m+1,l=> .agg (l.take s)::chunk s m (l.drop s)
theorem qF(n:Nat)(hp:Nat->Nat->AV)(hs:Nat->Nat->Nat->Nat->AV)(l:List AV):oT n hp hs l=l.map (fK n hp hs):=by
 induction l with
 |nil=>rfl
 |cons a l ih=>simp[oT,ih]
def ρ.lo(n:Nat):ρ->Bool
 | .own t=>decide (t<=n)
 |_=>true
mutual
def lo(n:Nat):AV->Bool
 | .μ id _=>decide (id<=n)
 | .ref l=>ba n l
 | .list c l=>c.lo n&&ba n l
 | .sl _ id _ _ _=>decide (id<=n)
 | .agg l=>ba n l
 | .aQ l=>ba n l
 | .fn f a b=>Fn.below (n+1) f&&ba n a&&ba n b
 | .iface _ v=>lo n v
 | .map id=>decide (id<=n)
 |_=>true
def ba(n:Nat):List AV->Bool
 |[]=>true
 |v::l=>lo n v&&ba n l
end
mutual
def plain:AV->Bool
 | .undef| .cY| .int _ _| .bool _| .str _| .iW| .fX| .gy| .gZ=>true
 | .aj _ _ _=>false
 | .μ _ _=>false
 | .ref _=>false
 | .list c l=>(decide (c= .any)||decide (c= .nil))&&sB l
 | .sl _ _ _ _ _=>false
 | .agg l=>sB l
 | .aQ l=>sB l
 | .fn (.func _) [] []=>true
 | .fn _ _ _=>false
 | .iface _ v=>plain v
 | .map _=>false
def sB:List AV->Bool
 |[]=>true
 |v::l=>plain v&&sB l
end
theorem fe(n:Nat)(k:Bool)(l:List AV):aX n k l=l.map (exp n k):=by
 induction l with
 |nil=>rfl
 |cons a l ih=>simp[aX,ih]
theorem fH(l:List AV):cw l=l.map ν:=by
 induction l with
 |nil=>rfl
 |cons a l ih=>simp[cw,ih]
theorem mn(n:Nat)(l:List AV):ba n l=l.all (lo n):=by
 induction l with
 |nil=>rfl
 |cons a l ih=>simp[ba,ih]
def aK:List AV->Nat->AV
 |[],_=> .undef
 |v::_,0=>v
 |_::l,n+1=>aK l n
def nf:List AV->Nat->AV->List AV
 |[],0,v=>[v]
 |[],n+1,v=> .undef::nf [] n v
 |_::l,0,v=>v::l
 |a::l,n+1,v=>a::nf l n v
theorem fL(l:List AV)(i:Nat)(v:AV)(j:Nat):aK (nf l i v) j=if i=j then v else aK l j:=by
 induction i generalizing l j with
 |zero=>cases l<;>cases j<;>simp[nf,aK]
 |succ i ih=>
  cases l with
  |nil=>cases j with
   |zero=>simp[nf,aK]
   |succ j=>simp[nf,aK,ih]
  |cons a l=>cases j with
   |zero=>simp[nf,aK]
   |succ j=>simp[nf,aK,ih]
inductive br
 |t (n:Nat)
 |c (v:AV)
 |g (n:Nat)
 deriving Inhabited
inductive KK
 |int
 |str
 |bool
 deriving DecidableEq,Inhabited
inductive NK
 |ptr
 |slice
 |fn
 |iface
 |map
 deriving DecidableEq,Inhabited
inductive CK
 |int (k:IntKind)
 |same
 |char
 deriving Inhabited
inductive AO
 |bad
 |mv (x:br)
 |pick (c a b:br)
 |alloc (oU:Bool) (zero:List AV)
 |box (oU:Bool) (n:Nat) (x:br)
 |build (zero:List AV) (parts:List (Nat×Nat×br))
 |yB (ag:Bool) (sz:Nat) (xs:List br)
 |ld (ag:Bool) (n:Nat) (a:br)
 |st (n:Nat) (a x:br)
 |Je (x:br)
 |bin (op:BinOp) (x y:br)
 |eqs (neg:Bool) (ks:List KK) (x y:br)
 |C4 (neg:Bool) (x y:br)
 |Iz (neg:Bool) (k:NK) (x:br)
 |un (op:UnOp) (x:br)
 |conv (k:CK) (x:br)
 |OV (t:TypeId) (x:br)
 |zJ (f:Fn) (first cap:List br)
 |fa (off:Nat) (x:br)
 |C_ (ag:Bool) (off n:Nat) (x:br)
 |ia (sz:Nat) (x i:br)
 |Oj (len sz:Nat) (x i:br)
 |On (ag:Bool) (len sz:Nat) (x i:br)
 |pn (x i:br)
 |lookup (kk:KK) (zero:AV) (ok:Bool) (m k:br)
 |mapup (kk:KK) (m k v:br)
 |mkmap
 |JG (sz:Nat) (x:br) (lo hi mx:Option br)
 |JH (x:br) (lo hi:Option br)
 |ext (x:br) (k:Nat)
 |callz (f:br) (args:List br)
 |appm (ag:Bool) (sz bytes:Nat) (e:TypeId) (x y:br)
 |call (f:br) (args:List br)
 |app (ag:Bool) (sz bytes:Nat) (e:TypeId) (x y:br)
 |len (x:br)
 |lens (x:br)
 |Ew (x:br)
 |OJ (n:Nat)
 |mkslc (kd:Nat) (zero:List AV) (bytes:Nat) (n c:br)
 |cpy (sz:Nat) (x y:br)
 |clr (zero:List AV) (x:br)
 |del (kk:KK) (m k:br)
 |max (x y:br)
 |min (x y:br)
 |abld (T e:TypeId)
 |tN (x:br)
 |EH (x:br)
 deriving Inhabited
structure aW where
 dst:Option Nat
 op:AO
 guard:Option (Nat×Bool)
 deriving Inhabited
inductive AC
 |skip
 |ops (l:List aW)
 |draw (l:List aW) (cf af:List (Nat×Nat))
 |seq (a b:AC)
 |cond (x:br) (a b:AC)
 |block (id:Nat) (a:AC)
 |loop (a:AC)
 |exit (id:Nat)
 |ret
 |B6 (f:br) (ps:List Nat) (fQ body:AC)
 |ER (ds:List Nat)
 |bad
 deriving Inhabited
inductive LS
 |ready
 |busy
 |done (j:Option Nat)
 deriving DecidableEq,Inhabited
inductive θ
 |cells (l:List AV)
 |iter (s:List Nat) (pos:Nat)
 |dead
 |nX (T e:TypeId) (s:List Nat)
 |map (es:List (AV×AV))
 |front (n sz:Nat) (e:TypeId)
 |loop (env:List AV) (ps:List Nat) (fQ body:AC) (st:LS)
 deriving Inhabited
abbrev Loc:=List (Nat×Nat×θ)
def bQ:Loc->Nat->Option (Nat×θ)
 |[],_=>none
 |(d,x)::l,d'=>if d=d' then some x else bQ l d'
def xM:Loc->Nat->(Nat×θ)->Loc
 |[],d,x=>[(d,x)]
 |(d,x)::l,d',x'=>if d=d' then(d',x')::l else(d,x)::xM l d' x'
theorem iu(l:Loc)(d:Nat)(x:Nat×θ)(d':Nat):bQ (xM l d x) d'=if d=d' then some x else bQ l d':=by
 induction l with
 |nil=>simp[xM,bQ]
 |cons a l ih=>
  obtain⟨e,y⟩:=a
  by_cases h:e=d
  ·subst h;by_cases h':e=d'<;>simp[xM,bQ,h']
  ·by_cases h':e=d'
   ·subst h';simp[xM,bQ,h,Ne.symm h]
   ·simp[xM,bQ,h,h',ih]
structure Mem where
 ε:List θ
 η:List Nat
 deriving Inhabited
def dk(l:List AV)(off:Nat)(vs:List AV):List AV:=l.take off++vs++l.drop (off+vs.length)
def rd(lk:Nat->Option (Nat×θ))(mem:Mem)(p:AV)(n:Nat):Option (List AV):=
 match p with
 | .aj d v off=>
  match lk d with
  |some (v',.cells l)=>if v'=v/\off+n<=l.length then some ((l.drop off).take n)else none
  |_=>none
 | .μ id off=>
  match mem.ε[id]? with
  |some (.cells l)=>if off+n<=l.length then some ((l.drop off).take n)else none
  |_=>none
 | .ref l=>if n<=l.length then some (l.take n)else none
 |_=>none
abbrev kL:=Option (Nat×Nat×θ)
def Mem.put(m:Mem)(id:Nat)(b:θ)(ok:Bool):Mem:= {ε:=m.ε.set id b,η:=if ok then m.η else id::m.η}
def Mem.push(m:Mem)(b:θ):Mem:= {m with ε:=m.ε++[b]}
def Mem.ν(_:Mem)(v:AV):AV:=Θ.ν v
def wr(lk:Nat->Option (Nat×θ))(mem:Mem)(p:AV)(vs:List AV):Option (kL×Mem):=
 match p with
 | .aj d v off=>
  match lk d with
  |some (v',.cells l)=>if v'=v/\off+vs.length<=l.length then some (some (d,v,.cells (dk l off vs)),mem)else none
  |_=>none
 | .μ id off=>
  match mem.ε[id]? with
  |some (.cells l)=>if off+vs.length<=l.length then some (none,mem.put id (.cells (dk l off (vs.map mem.ν))) (ba id (vs.map mem.ν)))else none
  |_=>none
 |_=>none
def iM(op:BinOp)(k:IntKind)(a b:Int):Option AV:=
 match op with
 | .add=>some (.int k (k.wrap (a+b)))
 | .sub=>some (.int k (k.wrap (a-b)))
 | .mul=>some (.int k (k.wrap (a*b)))
 | .quo=>if b=0 then none else some (.int k (k.wrap (a.tdiv b)))
 | .rem=>if b=0 then none else some (.int k (a.tmod b))
 | .and=>some (.int k (k.wrap (BitVec.ofInt k.bits a&&&BitVec.ofInt k.bits b).toNat))
 | .or=>some (.int k (k.wrap (BitVec.ofInt k.bits a|||BitVec.ofInt k.bits b).toNat))
 | .xor=>some (.int k (k.wrap (BitVec.ofInt k.bits a^^^BitVec.ofInt k.bits b).toNat))
 | .andNot=>some (.int k (k.wrap (BitVec.ofInt k.bits a&&& ~~~BitVec.ofInt k.bits b).toNat))
 | .eql=>some (.bool (a==b))
 | .neq=>some (.bool (a !=b))
 | .lss=>some (.bool (decide (a<b)))
 | .leq=>some (.bool (decide (a<=b)))
 | .gtr=>some (.bool (decide (a>b)))
 | .geq=>some (.bool (decide (a≥b)))
 |_=>none
def xQ:List Nat->List Nat->Bool
 |_,[]=>false
 |[],_::_=>true
 |a::x,b::y=>decide (a<b)||(decide (a=b)&&xQ x y)
def cE(op:BinOp)(a b:List Nat):Option AV:=
 match op with
 | .add=>if((a.length+b.length:Nat):Int)>IntKind.i64.max then none else some (.str (a++b))
 | .eql=>some (.bool (decide (a=b)))
 | .neq=>some (.bool (!decide (a=b)))
 | .lss=>some (.bool (xQ a b))
 | .leq=>some (.bool (xQ a b||decide (a=b)))
 | .gtr=>some (.bool (!(xQ a b||decide (a=b))))
 | .geq=>some (.bool (!xQ a b))
 |_=>none
def iE(op:BinOp)(x y:AV):Option AV:=
 match x,y with
 | .int k a,.int k' b=>
  match op with
  | .shl=>if b<0 then none else some (.int k (k.wrap (a*2^alq b.toNat k.bits)))
  | .shr=>if b<0 then none else some (.int k (a.fdiv (2^alq b.toNat k.bits)))
  |_=>if k=k' then iM op k a b else none
 | .str a,.str b=>cE op a b
 |_,_=>none
def jL:List KK->List AV->List AV->Option Bool
 |[],[],[]=>some true
 | .int::ks,.int k a::l,.int k' b::l'=>if k=k' then(jL ks l l').map (decide (a=b)&&·)else none
 | .str::ks,.str a::l,.str b::l'=>(jL ks l l').map (decide (a=b)&&·)
 | .bool::ks,.bool a::l,.bool b::l'=>(jL ks l l').map ((a==b)&&·)
 |_,_,_=>none
def isNil:NK->AV->Option Bool
 | .ptr,.iW=>some true
 | .ptr,.aj _ _ _=>some false
 | .ptr,.μ _ _=>some false
 | .ptr,.ref _=>some false
 | .slice,.list .nil _=>some true
 | .slice,.list _ _=>some false
 | .slice,.sl _ _ _ _ _=>some false
 | .fn,.fX=>some true
 | .fn,.fn _ _ _=>some false
 | .iface,.gy=>some true
 | .iface,.iface _ _=>some false
 | .map,.gZ=>some true
 | .map,.map _=>some false
 |_,_=>none
def jd(op:UnOp)(x:AV):Option AV:=
 match op,x with
 | .neg,.int k n=>some (.int k (k.wrap (0-n)))
 | .not,.bool b=>some (.bool !b)
 |_,_=>none
def lG(k:CK)(x:AV):Option AV:=
 match k,x with
 | .int k,.int _ n=>some (.int k (k.wrap n))
 | .same,.str s=>some (.str s)
 | .char,.int _ n=>some (.str ((Utf8.encode n).data.toList.map UInt8.toNat))
 |_,_=>none
def shaped(ag:Bool)(sz:Nat):AV->Bool
 | .agg l=>ag&&decide (l.length=sz)
 |v=>!ag&&v.one&&decide (sz=1)
def single:List AV->Option AV
 |[v]=>some v
 |_=>none
def gT(ag:Bool)(l:List AV):Option AV:=if ag then some (.agg l)else single l
def jT:AV->AV->Option Bool
 | .str a,.str b=>some (decide (a=b))
 | .int k a,.int k' b=>if k=k' then some (decide (a=b))else none
 | .bool a,.bool b=>some (a==b)
 |_,_=>none
def jF(k:AV):List (AV×AV)->Option (Option AV)
 |[]=>some none
 |(k',v)::l=>match jT k k' with
  |some true=>some (some v)
  |some false=>jF k l
  |none=>none
def uI(k v:AV):List (AV×AV)->Option (List (AV×AV))
 |[]=>some [(k,v)]
 |(k',v')::l=>match jT k k' with
  |some true=>some ((k,v)::l)
  |some false=>(uI k v l).map ((k',v')::·)
  |none=>none
def xN(k:AV):List (AV×AV)->Option (List (AV×AV))
 |[]=>some []
 |(k',v')::l=>match jT k k' with
  |some true=>some l
  |some false=>(xN k l).map ((k',v')::·)
  |none=>none
def isKey:KK->AV->Bool
 | .str,.str _=>true
 | .int,.int _ _=>true
 | .bool,.bool _=>true
 |_,_=>false
def bound(ev:br->AV)(top:Nat):Option br->Nat->Option Nat
 |none,F5=>some F5
 |some x,_=>match ev x with
  | .int _ n=>if 0<=n/\n<=top then some n.toNat else none
  |_=>none
def iX(p:AV)(off:Nat):Option AV:=
 match p with
 | .aj d v o=>some (.aj d v (o+off))
 | .μ id o=>some (.μ id (o+off))
 | .ref l=>if off<=l.length then some (.ref (l.drop off))else none
 |_=>none
def dd(ev:br->AV):List (Nat×Nat×br)->List AV->Option (List AV)
 |[],cs=>some cs
 |(off,size,x)::rest,cs=>if(ev x).cells.length=size/\off+size<=cs.length then dd ev rest (dk cs off (ev x).cells)else none
def bz(lk:Nat->Option (Nat×θ))(d:Nat):Nat:=
 match lk d with
 |none=>0
 |some (v,_)=>v+1
def newVar(lk:Nat->Option (Nat×θ))(mem:Mem)(oU:Bool)(dst:Option Nat)(b:List AV):Option (AV×kL×Mem):=
 if oU then some (.μ mem.ε.length 0,none,mem.push (.cells (b.map mem.ν)))
 else match dst with
  |some d=>some (.aj d (bz lk d) 0,some (d,bz lk d,.cells b),mem)
  |none=>none
def aO(bs:List θ)(n:Nat):Nat->AV->AV
 |0=>exp n false
 |k+1=>fK n
   (fun id off=>match bs[id]? with
    |some (.cells l)=> .ref ((l.drop off).map (aO bs n k))
    |_=> .cY)
   (fun kd id off m=>match bs[id]? with
    |some (.cells l)=>if off+m*Nat.max kd 1<=l.length then
      (if kd=0 then(if((l.drop off).take m).all AV.one then .list .any (((l.drop off).take m).map (aO bs n k))else .cY)
      else .list .any (chunk kd m ((l.drop off).map (aO bs n k))))
     else .cY
    |_=> .cY)
def rep:Nat->List AV->List AV
 |0,_=>[]
 |n+1,z=>z++rep n z
def cellsOf(mem:Mem)(sz:Nat):AV->Option (Nat×List AV)
 | .list _ l=>if l.all (fun e=>decide (e.cells.length=sz))then some (l.length,l.flatMap AV.cells)else none
 | .sl _ id off n _=>match mem.ε[id]? with
  |some (.cells l)=>if off+n*sz<=l.length then some (n,(l.drop off).take (n*sz))else none
  |_=>none
 |_=>none
abbrev cx:=AV->List AV->Mem->Option (AV×Mem)
def gC(mem:Mem)(ag:Bool)(sz bytes:Nat)(e:TypeId)(x y:AV):Option (AV×Mem):=
 match x,y with
 | .list c l,.list _ m=>
  if m.all (shaped ag sz)&&l.all (shaped ag sz)&&decide (0<sz)&&decide ((l.length+m.length)*bytes<=140737488355328)&&decide (l.length+m.length<=140737488355328)then
   match c,m with
   |c,[]=>some (.list c l,mem)
   | .full,m=>some (.list (.own mem.ε.length) (l++m.map mem.ν),mem.push (.front (l.length+m.length) sz e))
   | .nil,m=>some (.list (.own mem.ε.length) (l++m.map mem.ν),mem.push (.front (l.length+m.length) sz e))
   | .own t,m=>match mem.ε[t]? with
    |some (.front n eT e')=>if n=l.length/\eT=sz/\e'=e then some (.list (.own t) (l++m.map mem.ν),mem.put t (.front (l.length+m.length) sz e) true)else none
    |_=>none
   | .any,_=>none
  else none
 |_,_=>none
def wJ(mem:Mem)(ag:Bool)(sz bytes:Nat)(x y:AV):Option (AV×Mem):=
 match x,y with
 | .list c [],.list _ m=>
  if m.all (shaped ag sz)&&decide (0<sz)&&decide (m.length*bytes<=140737488355328)&&decide (m.length<=140737488355328)&&decide (c= .full\/c= .nil)then
   match m with
   |[]=>some (.list c [],mem)
   |m=>some (.sl (if ag then sz else 0) mem.ε.length 0 m.length m.length,mem.push (.cells ((m.flatMap AV.cells).map mem.ν)))
  else none
 |_,_=>none
def fz(mem:Mem):AV->Option (AV×Mem)
 | .list c l=>some (.list c l,mem)
 | .sl kd id off n _=>match mem.ε[id]? with
  |some (.cells l)=>if off+n*Nat.max kd 1<=l.length/\(kd=0->((l.drop off).take n).all AV.one=true)then
    some (.list .any (if kd=0 then(l.drop off).take n else chunk kd n (l.drop off)),mem.put id .dead true)else none
  |_=>none
 |_=>none
def aI(ev:br->AV)(lk:Nat->Option (Nat×θ))(mem:Mem)(ay:cx)(dst:Option Nat)(o:AO):Option (AV×kL×Mem):=
 match o with
 | .bad=>none
 | .mv x=>some (ev x,none,mem)
 | .pick c a b=>match ev c with
  | .bool t=>some (if t then ev a else ev b,none,mem)
  |_=>none
 | .alloc oU z=>newVar lk mem oU dst z
 | .abld T e=>some (.μ mem.ε.length 0,none,mem.push (.nX T e []))
 | .box oU n x=>if(ev x).cells.length=n then newVar lk mem oU dst (ev x).cells else none
 | .build z parts=>(dd ev parts z).map fun l=>(.agg l,none,mem)
 | .yB ag sz xs=>if xs.all fun x=>shaped ag sz (ev x)then some (.list .full (xs.map fun x=>mem.ν (ev x)),none,mem)else none
 | .ld ag n a=>match rd lk mem (ev a) n with
  |some l=>(gT ag l).map fun v=>(v,none,mem)
  |none=>none
 | .st n a x=>if(ev x).cells.length=n then(wr lk mem (ev a) (ev x).cells).map fun(u,m)=>(.undef,u,m)else none
 | .Je x=>match ev x with
  | .aj d v o=>some (.aj d v o,none,mem)
  | .μ id o=>some (.μ id o,none,mem)
  | .ref l=>some (.ref l,none,mem)
  | .fn (.func f) a b=>some (.fn (.func f) a b,none,mem)
  | .fn (.yield f) a b=>some (.fn (.yield f) a b,none,mem)
  |_=>none
 | .bin op x y=>(iE op (ev x) (ev y)).map fun v=>(v,none,mem)
 | .eqs neg ks x y=>match ev x,ev y with
  | .agg a,.agg b=>(jL ks a b).map fun t=>(.bool (if neg then !t else t),none,mem)
  |_,_=>none
 | .C4 neg x y=>match ev x,ev y with
  | .bool a,.bool b=>some (.bool (if neg then !(a==b)else a==b),none,mem)
  |_,_=>none
 | .Iz neg k x=>(isNil k (ev x)).map fun t=>(.bool (if neg then !t else t),none,mem)
 | .un op x=>(jd op (ev x)).map fun v=>(v,none,mem)
 | .conv k x=>(lG k (ev x)).map fun v=>(v,none,mem)
 | .OV t x=>some (.iface t (ev x),none,mem)
 | .zJ f a b=>some (.fn f (a.map ev) (b.map ev),none,mem)
 | .fa off x=>(iX (ev x) off).map fun v=>(v,none,mem)
 | .C_ ag off n x=>match ev x with
  | .agg l=>if off+n<=l.length then(gT ag ((l.drop off).take n)).map fun v=>(v,none,mem)else none
  |_=>none
 | .ia sz x i=>match ev x,ev i with
  | .list _ l,.int _ n=>if 0<=n/\n<l.length then
    match l[n.toNat]? with
    |some e=>if e.cells.length=sz then some (.ref e.cells,none,mem)else none
    |none=>none
   else none
  | .sl _ id off m _,.int _ n=>if 0<=n/\n<m then some (.μ id (off+n.toNat*sz),none,mem)else none
  |_,_=>none
 | .Oj len sz x i=>match ev i with
  | .int _ n=>if 0<=n/\n<len then(iX (ev x) (n.toNat*sz)).map fun v=>(v,none,mem)else none
  |_=>none
 | .On ag len sz x i=>match ev x,ev i with
  | .agg l,.int _ n=>if 0<=n/\n<len/\l.length=len*sz then(gT ag ((l.drop (n.toNat*sz)).take sz)).map fun v=>(v,none,mem)else none
  |_,_=>none
 | .pn x i=>match ev x,ev i with
  | .str s,.int _ n=>if 0<=n then(s[n.toNat]?).map fun(b:Nat)=>(AV.int .u8 (Int.ofNat b),none,mem)else none
  |_,_=>none
 | .lookup kk zero ok m k=>match ev m with
  | .gZ=>if isKey kk (ev k)then some (if ok then .aQ [zero,.bool false]else zero,none,mem)else none
  | .map id=>match mem.ε[id]? with
   |some (.map es)=>if isKey kk (ev k)then(jF (ev k) es).map fun r=>match r with
     |some v=>(if ok then .aQ [v,.bool true]else v,none,mem)
     |none=>(if ok then .aQ [zero,.bool false]else zero,none,mem)
    else none
   |_=>none
  |_=>none
 | .mapup kk m k v=>match ev m with
  | .map id=>match mem.ε[id]? with
   |some (.map es)=>if isKey kk (ev k)&&plain (ev v)then(uI (ev k) (ev v) es).map fun fb=>(.undef,none,mem.put id (.map fb) true)else none
   |_=>none
  |_=>none
 | .mkmap=>some (.map mem.ε.length,none,mem.push (.map []))
 | .JG sz x lo hi mx=>match ev x with
  | .list c l=>if l.all fun e=>decide (e.cells.length=sz)then
    match bound ev l.length mx l.length with
    |some m=>match bound ev m hi l.length with
     |some h=>match bound ev h lo 0 with
      |some b=>some (.list (if c= .nil then .nil else if mx.isSome then(if m=h then .full else .any)else if c= .full/\h=l.length then .full else .any) ((l.take h).drop b),none,mem)
      |none=>none
     |none=>none
    |none=>none
   else none
  | .sl kd id off n cap=>match mx with
   |some _=>none
   |none=>match bound ev n hi n with
    |some h=>match bound ev h lo 0 with
     |some b=>if b=0\/b<n then some (.sl kd id (off+b*sz) (h-b) (cap-b),none,mem)else none
     |none=>none
    |none=>none
  |_=>none
 | .JH x lo hi=>match ev x with
  | .str s=>match bound ev s.length hi s.length with
   |some h=>match bound ev h lo 0 with
    |some b=>some (.str ((s.take h).drop b),none,mem)
    |none=>none
   |none=>none
  |_=>none
 | .ext x k=>match ev x with
  | .aQ l=>(l[k]?).map fun v=>(v,none,mem)
  |_=>none
 | .call f args=>(ay (ev f) (args.map ev) mem).map fun(v,m)=>(v,none,m)
 | .app ag sz bytes e x y=>(gC mem ag sz bytes e (ev x) (ev y)).map fun(v,m)=>(v,none,m)
 | .callz f args=>match ay (ev f) (args.map ev) mem with
  |some (v,m)=>(fz m v).map fun(v,m)=>(v,none,m)
  |none=>none
 | .appm ag sz bytes _ x y=>(wJ mem ag sz bytes (ev x) (ev y)).map fun(v,m)=>(v,none,m)
 | .len x=>match ev x with
  | .list _ l=>some (.int .i64 l.length,none,mem)
  | .sl _ _ _ n _=>some (.int .i64 n,none,mem)
  |_=>none
 | .mkslc kd z bytes n c=>match ev n,ev c with
  | .int _ n,.int _ c=>if 0<=n/\n<=c/\(bytes:Int)*c<=281474976710656/\c<=9223372036854775807 then
    some (.sl kd mem.ε.length 0 n.toNat c.toNat,none,mem.push (.cells ((rep c.toNat z).map mem.ν)))
   else none
  |_,_=>none
 | .cpy sz x y=>match ev x with
  | .sl _ id off n _=>match cellsOf mem sz (ev y)with
   |some (k,cs)=>(wr (fun _=>none) mem (.μ id off) (cs.take (alq k n*sz))).map fun(_,m)=>(.int .i64 (alq k n:Nat),none,m)
   |none=>none
  |_=>none
 | .clr z x=>match ev x with
  | .list _ []=>some (.undef,none,mem)
  | .sl _ id off n _=>if n=0 then some (.undef,none,mem)else(wr (fun _=>none) mem (.μ id off) (rep n z)).map fun(_,m)=>(.undef,none,m)
  |_=>none
 | .lens x=>match ev x with
  | .str s=>some (.int .i64 s.length,none,mem)
  |_=>none
 | .OJ n=>some (.int .i64 n,none,mem)
 | .Ew x=>match ev x with
  | .gZ=>some (.int .i64 0,none,mem)
  | .map id=>match mem.ε[id]? with
   |some (.map es)=>some (.int .i64 es.length,none,mem)
   |_=>none
  |_=>none
 | .del kk m k=>match ev m with
  | .map id=>match mem.ε[id]? with
   |some (.map es)=>if isKey kk (ev k)then(xN (ev k) es).map fun fb=>(.undef,none,mem.put id (.map fb) true)else none
   |_=>none
  |_=>none
 | .max x y=>match ev x,ev y with
  | .int k a,.int k' b=>if k=k' then some (.int k (if b>a then b else a),none,mem)else none
  |_,_=>none
 | .min x y=>match ev x,ev y with
  | .int k a,.int k' b=>if k=k' then some (.int k (if b<a then b else a),none,mem)else none
  |_,_=>none
 | .tN x=>match ev x,dst with
  | .str s,some d=>some (.aj d (bz lk d) 0,some (d,bz lk d,.iter s 0),mem)
  |_,_=>none
 | .EH x=>match ev x with
  | .aj d v 0=>match lk d with
   |some (v',.iter s pos)=>if v'=v then
     if pos<s.length then
      let r:=Utf8.decode ⟨(s.map UInt8.ofNat).toArray⟩ pos
      some (.aQ [.bool true,.int .i64 pos,.int .i32 r.1],some (d,v,.iter s (pos+r.2)),mem)
     else some (.aQ [.bool false],none,mem)
    else none
   |_=>none
  |_=>none
inductive Ex
 |normal
 |exit (id:Nat)
 |ret
 deriving DecidableEq,Inhabited
structure St where
 env:List AV
 loc:Loc
 mem:Mem
 deriving Inhabited
def dw(gl:Nat->AV)(env:List AV):br->AV
 | .t n=>aK env n
 | .c v=>v
 | .g n=>gl n
def eX(env:List AV):Option (Nat×Bool)->Option Bool
 |none=>some true
 |some (d,want)=>match aK env d with
  | .bool b=>some (b==want)
  | .undef=>some false
  |_=>none
def fA(env:List AV):Option Nat->AV->List AV
 |none,_=>env
 |some d,v=>nf env d v
def eN(loc:Loc):kL->Loc
 |none=>loc
 |some (d,v,b)=>xM loc d (v,b)
def dP(gl:Nat->AV)(ay:cx)(o:aW)(s:St):Option St:=
 match eX s.env o.guard with
 |none=>none
 |some true=>match aI (dw gl s.env) (bQ s.loc) s.mem ay o.dst o.op with
  |some (v,u,m)=>some {env:=fA s.env o.dst v,loc:=eN s.loc u,mem:=m}
  |none=>none
 |some false=>some {s with env:=fA s.env o.dst .undef}
def dY(gl:Nat->AV)(ay:cx):List aW->St->Option St
 |[],s=>some s
 |o::l,s=>match dP gl ay o s with
  |some s'=>dY gl ay l s'
  |none=>none
def ew(gl:Nat->AV)(ay:cx):List aW->St->Option (List St)
 |[],s=>some [s]
 |o::l,s=>match dP gl ay o s with
  |some s'=>(ew gl ay l s').map (s::·)
  |none=>none
def eK:Option (List AV)->Option (List AV)->Bool
 |some a,some b=>AV.gK a b
 |_,_=>false
def cQ(l:List aW)(j:Nat):Bool:=match l[j]? with
 |some o=>match o.op with
  | .st _ _ _=>true
  |_=>false
 |none=>false
def cN(gl:Nat->AV)(l:List aW)(tr:List St)(i j:Nat):Bool:=
 match l[i]?,tr[i]?,tr[j]?,tr[j+1]? with
 |some o,some si,some sj,some E7=>
  match eX si.env o.guard,o.op with
  |some false,_=>true
  |_,.ld _ n a=>match dw gl si.env a with
   | .μ id off=>eK (rd (fun _=>none) sj.mem (.μ id off) n) (rd (fun _=>none) si.mem (.μ id off) n)&&
     eK (rd (fun _=>none) E7.mem (.μ id off) n) (rd (fun _=>none) si.mem (.μ id off) n)
   | .aj d v off=>!(cQ l j)||eK (rd (bQ sj.loc) {ε:=[],η:=[]} (.aj d v off) n) (rd (bQ si.loc) {ε:=[],η:=[]} (.aj d v off) n)&&
     eK (rd (bQ E7.loc) {ε:=[],η:=[]} (.aj d v off) n) (rd (bQ si.loc) {ε:=[],η:=[]} (.aj d v off) n)
   |_=>true
  |_,_=>false
 |_,_,_,_=>false
def nY(gl:Nat->AV)(l:List aW)(tr:List St)(i j:Nat):Bool:=
 match l[i]?,l[j]?,tr[j]? with
 |some oi,some o,some sj=>match o.op with
  | .ld _ _ a=>match dw gl sj.env a with
   | .aj d _ _=>oi.dst !=some d
   |_=>true
  |_=>false
 |_,_,_=>false
def e_(gl:Nat->AV)(ay:cx)(l:List aW)(cf af:List (Nat×Nat))(s:St):Option St:=
 match ew gl ay l s with
 |some tr=>if cf.all (fun p=>cN gl l tr p.1 p.2)&&af.all (fun p=>nY gl l tr p.1 p.2)then tr.getLast? else none
 |none=>none
abbrev pJ:=(St->Option (Ex×St))->St->Option (Ex×St)
def θ.B9(n:Nat):θ->θ
 | .cells l=> .cells (l.map (exp n true))
 |b=>b
def θ.clean(id:Nat):θ->Bool
 | .cells l=>ba id l
 |_=>true
def lV(n:Nat):List Nat->List θ->List θ
 |[],bs=>bs
 |i::l,bs=>lV n l (match bs[i]? with
  |some b=>bs.set i (b.B9 n)
  |none=>bs)
def Mem.back(m0 m:Mem):Mem:=
 let n:=m0.ε.length
 let bs:=lV n m.η (m.ε.take n)
 {ε:=bs,η:=m0.η++m.η.filter fun i=>match bs[i]? with
   |some b=>!b.clean i
   |none=>false}
def AV.zA:AV->Option AV
 | .fn (.func f) a b=>some (.fn (.func f) a b)
 |_=>none
def ES(d:Nat)(s:St):Option St:=
 match aK s.env d with
 | .aj d' v 0=>match bQ s.loc d with
  |some (v',.cells l)=>if d'=d/\v'=v then
    some {env:=nf s.env d (.μ s.mem.ε.length 0),loc:=xM s.loc d (v,.dead),mem:=s.mem.push (.cells (l.map s.mem.ν))}else none
  |_=>none
 |_=>none
def BX:List Nat->St->Option St
 |[],s=>some s
 |d::l,s=>match ES d s with
  |some s'=>BX l s'
  |none=>none
def exec(gl:Nat->AV)(ay:cx)(lp:pJ):AC->St->Option (Ex×St)
 | .skip,s=>some (.normal,s)
 | .ops l,s=>(dY gl ay l s).map fun s'=>(.normal,s')
 | .draw l cf af,s=>(e_ gl ay l cf af s).map fun s'=>(.normal,s')
 | .seq a b,s=>match exec gl ay lp a s with
  |some (.normal,s')=>exec gl ay lp b s'
  |r=>r
 | .cond x a b,s=>match dw gl s.env x with
  | .bool t=>if t then exec gl ay lp a s else exec gl ay lp b s
  |_=>none
 | .block id a,s=>match exec gl ay lp a s with
  |some (.exit i,s')=>if i=id then some (.normal,s')else some (.exit i,s')
  |r=>r
 | .loop a,s=>lp (exec gl ay lp a) s
 | .exit id,s=>some (.exit id,s)
 | .ret,s=>some (.ret,s)
 | .B6 f ps fQ body,s=>
  match(dw gl s.env f).zA.bind fun f=>ay f [.fn (.yield s.mem.ε.length) [] []] {ε:=s.mem.ε++[.loop (s.env.map s.mem.ν) ps fQ body .ready],η:=[]}with
  |some (_,m)=>match m.ε[s.mem.ε.length]? with
   |some (.loop _ _ _ _ .ready)=>some (.normal,{s with mem:=s.mem.back m})
   |some (.loop _ _ _ _ (.done none))=>some (.ret,{s with mem:=s.mem.back m})
   |some (.loop _ _ _ _ (.done (some i)))=>some (.exit i,{s with mem:=s.mem.back m})
   |_=>none
  |none=>none
 | .ER ds,s=>(BX ds s).map fun s'=>(.normal,s')
 | .bad,_=>none
def fV:Nat->pJ
 |0,_,_=>none
 |n+1,body,s=>match body s with
  |some (.normal,s')=>fV n body s'
  |r=>r
inductive RV
 |tmp (t:Nat)
 |cell (a:Nat) (ag:Bool) (n:Nat)
 deriving Inhabited
structure AF where
 ntmps:Nat
 results:List RV
 code:AC
 deriving Inhabited
abbrev Prim:=List AV->Mem->Option (AV×Mem)
structure iL where
 gl:Nat->AV
 fs:Nat->Option AF
 gQ:Nat->Option Prim
 bf:Nat->Bool
 alts:Nat->Option AF:=fun _=>none
def RV.get(s:St):RV->Option AV
 | .tmp t=>some (aK s.env t)
 | .cell a ag n=>match rd (bQ s.loc) s.mem (aK s.env a) n with
  |some l=>gT ag l
  |none=>none
def cK(s:St):List RV->Option (List AV)
 |[]=>some []
 |r::l=>match r.get s with
  |some v=>(cK s l).map (v::·)
  |none=>none
def cL:List AV->AV
 |[v]=>v
 |l=> .aQ l
def fin(g:AF)(bf:Bool)(m0:Mem):Option (Ex×St)->Option (AV×Mem)
 |some (.exit _,_)=>none
 |some (_,s)=>match cK s g.results with
  |some l=>if bf then some (exp s.mem.ε.length true (cL l),{ε:=s.mem.ε,η:=m0.η++s.mem.η})
    else some (aO s.mem.ε m0.ε.length 8 (cL l),m0.back s.mem)
  |none=>none
 |none=>none
def uX:List AV->List Nat->List AV->List AV
 |env,[],_=>env
 |env,_,[]=>env
 |env,p::ps,v::vs=>uX (nf env p v) ps vs
def Mem.i_(m:Mem)(l:Nat)(st:LS):Mem:=
 match m.ε[l]? with
 |some (.loop env ps fQ body _)=> {m with ε:=m.ε.set l (.loop env ps fQ body st)}
 |_=>m
def Mem.ls(m:Mem)(l:Nat):Option LS:=
 match m.ε[l]? with
 |some (.loop _ _ _ _ st)=>some st
 |_=>none
def round(ex:AC->St->Option (Ex×St))(l:Nat)(args:List AV)(mem:Mem):Option (AV×Mem):=
 match mem.ε[l]? with
 |some (.loop env ps fQ body _)=>
  if ps.length=args.length then
   match ex fQ {env:=uX env ps (args.map (exp mem.ε.length false)),loc:=[],mem:=mem}with
   |some (.normal,s1)=>
    if s1.mem.ls l=some .ready then
     match ex body {s1 with mem:=s1.mem.i_ l .busy}with
     |some (.normal,s2)=>if s2.mem.ls l=some .busy then some (.bool true,s2.mem.i_ l .ready)else none
     |some (.ret,s2)=>if s2.mem.ls l=some .busy then some (.bool false,s2.mem.i_ l (.done none))else none
     |some (.exit i,s2)=>if s2.mem.ls l=some .busy then some (.bool false,s2.mem.i_ l (.done (some i)))else none
     |none=>none
    else none
   |_=>none
  else none
 |_=>none
def body(C:iL)(ay:cx)(lp:pJ):cx:=fun fv args mem=>
 match fv with
 | .fn (.func f) first cap=>
  match C.gQ f with
  |some p=>p ((first++args++cap).map (exp mem.ε.length (C.bf f))) mem
  |none=>match C.fs f with
   |some g=>fin g (C.bf f) mem (exec C.gl ay lp g.code
     {env:=(first++args++cap).map (exp mem.ε.length (C.bf f)),loc:=[],mem:= {ε:=mem.ε,η:=[]}})
   |none=>none
 | .fn (.methodOf f _) first cap=>
  match C.alts f with
  |some g=>fin g true mem (exec C.gl ay lp g.code
    {env:=(first++args++cap).map (exp mem.ε.length true),loc:=[],mem:= {ε:=mem.ε,η:=[]}})
  |none=>none
 | .fn (.yield l) [] []=>round (exec C.gl ay lp) l args mem
 |_=>none
def cv(C:iL):Nat->cx
 |0=>fun _ _ _=>none
 |n+1=>body C (cv C n) (fV n)
def cx.le(c c':cx):Prop:=∀fv args mem r,c fv args mem=some r->c' fv args mem=some r
def pJ.le(l l':pJ):Prop:=∀b b':St->Option (Ex×St),(∀s r,b s=some r->b' s=some r)->∀s r,l b s=some r->l' b' s=some r
theorem Za{ev lk mem dst o r}{c c':cx}(h:c.le c')(hr:aI ev lk mem c dst o=some r):aI ev lk mem c' dst o=some r:=by
 cases o<;>try exact hr
 case call f args=>
  simp only[aI,bD]at hr⊢
  obtain⟨x,hx,rfl⟩:=hr;exact⟨x,h _ _ _ _ hx,rfl⟩
 case callz f args=>
  simp only[aI]at hr⊢
  split at hr
  ·rename_i v m he;rw[h _ _ _ _ he];exact hr
  ·cases hr
theorem FE{gl o s r}{c c':cx}(h:c.le c')(hr:dP gl c o s=some r):dP gl c' o s=some r:=by
 unfold dP at hr⊢;split at hr
 ·cases hr
 ·split at hr
  ·rename_i he;rw[Za h he];exact hr
  ·cases hr
 ·exact hr
theorem Qu{gl l s r}{c c':cx}(h:c.le c')(hr:dY gl c l s=some r):dY gl c' l s=some r:=by
 induction l generalizing s with
 |nil=>exact hr
 |cons o l ih=>
  simp only[dY]at hr⊢
  split at hr
  ·rename_i he;rw[FE h he];exact ih hr
  ·cases hr
theorem QC{gl l s r}{c c':cx}(h:c.le c')(hr:ew gl c l s=some r):ew gl c' l s=some r:=by
 induction l generalizing s r with
 |nil=>exact hr
 |cons o l ih=>
  simp only[ew]at hr⊢
  split at hr
  ·rename_i he;rw[FE h he];simp only[bD]at hr⊢;obtain⟨x,hx,rfl⟩:=hr;exact⟨x,ih hx,rfl⟩
  ·cases hr
theorem Y1{gl l cf af s r}{c c':cx}(h:c.le c')(hr:e_ gl c l cf af s=some r):e_ gl c' l cf af s=some r:=by
 unfold e_ at hr⊢;split at hr
 ·rename_i he;rw[QC h he];exact hr
 ·cases hr
theorem Gb{gl}{c c':cx}{l l':pJ}(h:c.le c')(hl:l.le l')(a:AC):∀s r,exec gl c l a s=some r->exec gl c' l' a s=some r:=by
 induction a with
 |skip=>intro s r hr;exact hr
 |ops x=>
  intro s r hr
  simp only[exec,bD]at hr⊢;obtain⟨x,hx,rfl⟩:=hr;exact⟨x,Qu h hx,rfl⟩
 |draw x cf af=>
  intro s r hr
  simp only[exec,bD]at hr⊢;obtain⟨x,hx,rfl⟩:=hr;exact⟨x,Y1 h hx,rfl⟩
 |seq a b dM gx=>
  intro s r hr
  simp only[exec]at hr⊢;split at hr
  ·rename_i he;rw[dM _ _ he];exact gx _ _ hr
  ·rename_i φ;rw[dM _ _ hr];split
   ·rename_i he;rw[he]at hr;exact absurd hr (φ _)
   ·rfl
 |cond x a b dM gx=>
  intro s r hr
  simp only[exec]at hr⊢;split at hr
  ·split at hr
   ·rename_i he ht;simp only[ht,if_true];exact dM _ _ hr
   ·rename_i he ht;simp only[ht];exact gx _ _ hr
  ·cases hr
 |block id a dM=>
  intro s r hr
  simp only[exec]at hr⊢;split at hr
  ·rename_i he;rw[dM _ _ he];exact hr
  ·rename_i φ;rw[dM _ _ hr];split
   ·rename_i he;rw[he]at hr;exact absurd hr (φ _ _)
   ·rfl
 |loop a dM=>
  intro s r hr
  simp only[exec]at hr⊢;exact hl _ _ dM _ _ hr
 |exit id=>intro s r hr;exact hr
 |ret=>intro s r hr;exact hr
 |B6 f ps fQ body _ _=>
  intro s r hr
  simp only[exec]at hr⊢;split at hr
  ·rename_i he;obtain⟨fv,h1,h2⟩:=Option.bind_eq_some_iff.1 he;rw[h1];simp only[Option.bind_some,h _ _ _ _ h2];exact hr
  ·cases hr
 |ER ds=>intro s r hr;exact hr
 |bad=>intro s r hr;exact hr
theorem FC(n n':Nat)(h:n<=n'):pJ.le (fV n) (fV n'):=by
 intro b b' hb s r hr;induction n generalizing n' s with
 |zero=>simp[fV]at hr
 |succ n ih=>
  obtain⟨m,rfl⟩:∃m,n'=m+1:=⟨n'-1,by omega⟩
  simp only[fV]at hr⊢;split at hr
  ·rename_i he;rw[hb _ _ he];exact ih m (by omega) _ hr
  ·rename_i φ;rw[hb _ _ hr];split
   ·rename_i he;rw[he]at hr;exact absurd hr (φ _)
   ·rfl
theorem ajc{e e':AC->St->Option (Ex×St)}(h:∀a s r,e a s=some r->e' a s=some r){l args mem r}(hr:round e l args mem=some r):round e' l args mem=some r:=by
 unfold round at hr⊢;split at hr
 ·split at hr
  ·rename_i hlen;simp only[hlen,if_true];split at hr
   ·rename_i he;rw[h _ _ _ he];dsimp only at hr⊢;split at hr
    ·rename_i ov;simp only[ov,if_true];split at hr
     ·rename_i l_;simp only[h _ _ _ l_];exact hr
     ·rename_i l_;simp only[h _ _ _ l_];exact hr
     ·rename_i l_;simp only[h _ _ _ l_];exact hr
     ·cases hr
    ·cases hr
   ·cases hr
  ·cases hr
 ·cases hr
theorem ZK{C:iL}{c c':cx}{l l':pJ}(h:c.le c')(hl:l.le l'):(body C c l).le (body C c' l'):=by
 intro fv args mem r hr;unfold body at hr⊢;split at hr
 ·split at hr
  ·exact hr
  ·split at hr
   ·rename_i hg;generalize he:exec C.gl c l _ _=x at hr;cases x with
    |none=>simp[fin]at hr
    |some x=>simp only[Gb h hl _ _ _ he];exact hr
   ·cases hr
 ·split at hr
  ·rename_i hg;generalize he:exec C.gl c l _ _=x at hr;cases x with
   |none=>simp[fin]at hr
   |some x=>simp only[Gb h hl _ _ _ he];exact hr
  ·cases hr
 ·exact ajc (fun a s r=>Gb h hl a s r) hr
 ·cases hr
theorem aaG(C:iL)(n:Nat):(cv C n).le (cv C (n+1)):=by
 induction n with
 |zero=>intro fv args mem r hr;simp[cv]at hr
 |succ n ih=>exact ZK ih (FC _ _ (by omega))
theorem yG(C:iL){n n':Nat}(h:n<=n'):(cv C n).le (cv C n'):=by
 induction h with
 |refl=>exact fun _ _ _ _ h=>h
 |step _ ih=>exact fun _ _ _ _ h=>aaG C _ _ _ _ _ (ih _ _ _ _ h)
structure Gh where
 im:Nat->Nat->Option Value
 mb:Nat->Option Nat
 rows:Nat->Nat->Option (Nat×Nat)
abbrev LB:=Nat->Nat->Option Nat
def Gh.sub(g g':Gh):Prop:=
 (∀b o x,g.im b o=some x->g'.im b o=some x)/\(∀id b,g.mb id=some b->g'.mb id=some b)/\(∀t n x,g.rows t n=some x->g'.rows t n=some x)
def Gh.cut(g:Gh)(n:Nat):Gh:=
 {im:=g.im,mb:=fun id=>if id<n then g.mb id else none,rows:=fun t m=>if t<n then g.rows t m else none}
def nu(g:Gh)(n b o cap:Nat):ρ->Prop
 | .any=>True
 | .full=>cap=n
 | .nil=>False
 | .own t=>o=0/\g.rows t n=some (b,cap)
def bV:LB:=fun _ _=>none
def sK(mb:Nat->Option Nat):Fn->Fn->Prop
 | .func f,.func f'=>f'=f
 | .methodOf f _,.func f'=>f'=f
 | .yield i,.yield b=>mb i=some b
 |_,_=>False
theorem sK.mono{mb mZ:Nat->Option Nat}(hm:∀i b,mb i=some b->mZ i=some b){f f':Fn}(h:sK mb f f'):sK mZ f f':=by cases f<;>cases f'<;>first|exact h|exact hm _ _ h|exact h.elim
inductive VR (g:Gh):LB->AV->Value->Prop
 |undef (lb:LB):VR g lb .undef (.tuple #[])
 |cY (lb:LB) (x:Value) (h:x.oneCell'=true):VR g lb .cY x
 |int (lb:LB) (k:IntKind) (n:Int):VR g lb (.int k n) (.int k n)
 |bool (lb:LB) (b:Bool):VR g lb (.bool b) (.bool b)
 |str (lb:LB) (b:ByteArray) (s:List Nat) (h:b.data.toList.map UInt8.toNat=s):VR g lb (.str s) (.string b)
 |iW (lb:LB):VR g lb .iW (.pointer none)
 |aj (lb:LB) (d v off b:Nat) (h:lb d v=some b):VR g lb (.aj d v off) (.pointer (some ⟨b,off,none⟩))
 |μ (lb:LB) (id off b:Nat) (h:g.mb id=some b):VR g lb (.μ id off) (.pointer (some ⟨b,off,none⟩))
 |ref (lb:LB) (l:List AV) (b o:Nat) (xs:Nat->Value) (cC:∀i,i<l.length->g.im b (o+i)=some (xs i)/\(xs i).oneCell'=true)
   (hv:∀i (h:i<l.length),VR g bV l[i] (xs i)):VR g lb (.ref l) (.pointer (some ⟨b,o,none⟩))
 |iU (lb:LB):VR g lb (.list .nil []) (.slice none 0 0)
 |iw (lb:LB) (c:ρ) (a:Addr) (cap:Nat) (hc:c= .any\/(c= .full/\cap=0)):VR g lb (.list c []) (.slice (some a) 0 cap)
 |sl (lb:LB) (kd id off n cap gq b:Nat) (hc:n<=cap) (eG:cap<=gq) (h:g.mb id=some b):VR g lb (.sl kd id off n cap) (.slice (some ⟨b,off,none⟩) n gq)
 |list (lb:LB) (c:ρ) (l:List AV) (b o sz n cap:Nat) (xs:Nat->Nat->Value) (hn:l.length=n) (dQ:n<=cap) (hc:nu g n b o cap c)
   (aL:∀e∈l,e.cells.length=sz)
   (cC:∀i,i<n->∀j,j<sz->g.im b (o+(i*sz+j))=some (xs i j)/\(xs i j).oneCell'=true)
   (hv:∀i (h:i<l.length) j (hj:j<l[i].cells.length),VR g bV l[i].cells[j] (xs i j)):VR g lb (.list c l) (.slice (some ⟨b,o,none⟩) n cap)
 |agg (lb:LB) (l:List AV) (a:Array Value) (hs:a.size=l.length) (h1:∀i (h:i<a.size),a[i].oneCell'=true)
   (hv:∀i (h:i<l.length) (h':i<a.size),VR g lb l[i] a[i]):VR g lb (.agg l) (.agg a)
 |aQ (lb:LB) (l:List AV) (a:Array Value) (hs:a.size=l.length)
   (hv:∀i (h:i<l.length) (h':i<a.size),VR g lb l[i] a[i]):VR g lb (.aQ l) (.tuple a)
 |fn (lb:LB) (f f':Fn) (l m:List AV) (a b:Array Value) (hs:a.size=l.length) (ht:b.size=m.length)
   (hy:sK g.mb f f')
   (hv:∀i (h:i<l.length) (h':i<a.size),VR g lb l[i] a[i]) (hw:∀i (h:i<m.length) (h':i<b.size),VR g lb m[i] b[i]):
   VR g lb (.fn f l m) (.func f' a b)
 |fX (lb:LB):VR g lb .fX .nilFunc
 |iface (lb:LB) (t:TypeId) (v:AV) (x:Value) (h:VR g lb v x):VR g lb (.iface t v) (.iface t x)
 |gy (lb:LB):VR g lb .gy .nilIface
 |map (lb:LB) (id b:Nat) (h:g.mb id=some b):VR g lb (.map id) (.map (some b))
 |gZ (lb:LB):VR g lb .gZ (.map none)
theorem Sb{g g':Gh}{n b o cap:Nat}{c:ρ}(hg:g.sub g')(h:nu g n b o cap c):nu g' n b o cap c:=by
 cases c with
 |any=>trivial
 |full=>exact h
 |nil=>exact h
 |own t=>exact⟨h.1,hg.2.2 _ _ _ h.2⟩
theorem VR.mono{g g':Gh}{lb lb':LB}{v:AV}{x:Value}(hg:g.sub g')(hl:∀d i b,lb d i=some b->lb' d i=some b)(h:VR g lb v x):VR g' lb' v x:=by
 induction h generalizing lb' with
 |undef=>exact .undef _
 |cY _ x h=>exact .cY _ x h
 |int _ k n=>exact .int _ k n
 |bool _ b=>exact .bool _ b
 |str _ b s h=>exact .str _ b s h
 |iW=>exact .iW _
 |aj _ d v off b h=>exact .aj _ d v off b (hl _ _ _ h)
 |μ _ id off b h=>exact .μ _ id off b (hg.2.1 _ _ h)
 |ref _ l b o xs cC _ ih=>exact .ref _ l b o xs (fun i hi=>⟨hg.1 _ _ _ (cC i hi).1,(cC i hi).2⟩) fun i hi=>ih i hi fun _ _ _ h=>h
 |iU=>exact .iU _
 |iw _ c a cap hc=>exact .iw _ c a cap hc
 |sl _ kd id off n cap gq b hc eG h=>exact .sl _ kd id off n cap gq b hc eG (hg.2.1 _ _ h)
 |list _ c l b o sz n cap xs hn dQ hc aL cC _ ih=>exact .list _ c l b o sz n cap xs hn dQ (Sb hg hc) aL (fun i hi j hj=>⟨hg.1 _ _ _ (cC i hi j hj).1,(cC i hi j hj).2⟩) fun i hi j hj=>ih i hi j hj fun _ _ _ h=>h
 |agg _ l a hs h1 _ ih=>exact .agg _ l a hs h1 fun i hi ae=>ih i hi ae hl
 |aQ _ l a hs _ ih=>exact .aQ _ l a hs fun i hi ae=>ih i hi ae hl
 |fn _ f f' l m a b hs ht hy _ _ qZ pg=>exact .fn _ f f' l m a b hs ht (hy.mono hg.2.1) (fun i hi ae=>qZ i hi ae hl) (fun i hi ae=>pg i hi ae hl)
 |fX=>exact .fX _
 |iface _ t v x _ ih=>exact .iface _ t v x (ih hl)
 |gy=>exact .gy _
 |map _ id b h=>exact .map _ id b (hg.2.1 _ _ h)
 |gZ=>exact .gZ _
theorem Gh.eS(g:Gh):g.sub g:=⟨fun _ _ _ h=>h,fun _ _ h=>h,fun _ _ _ h=>h⟩
theorem Gh.Cf{a b c:Gh}(h:a.sub b)(k:b.sub c):a.sub c:=
 ⟨fun _ _ _ x=>k.1 _ _ _ (h.1 _ _ _ x),fun _ _ x=>k.2.1 _ _ (h.2.1 _ _ x),fun _ _ _ x=>k.2.2 _ _ _ (h.2.2 _ _ _ x)⟩
theorem VR.sub{g g':Gh}{lb:LB}{v:AV}{x:Value}(hg:g.sub g')(h:VR g lb v x):VR g' lb v x:=h.mono hg fun _ _ _ h=>h
theorem FX(n:Nat)(k:Bool)(v:AV):(exp n k v).cells=v.cells.map (exp n k):=by
 cases v with
 |μ id off=>simp only[exp,AV.cells,az,aJ];by_cases h:id<n<;>simp[h]
 |fn f a b=>simp only[exp,AV.cells,az,aJ];by_cases h:Fn.below n f=true<;>simp[h]
 |map id=>simp only[exp,AV.cells,az,aJ];by_cases h:id<n<;>simp[h]
 |sl kd id off m cap=>simp only[exp,AV.cells,az,aJ];by_cases h:id<n<;>simp[h]
 |_=>simp[exp,AV.cells,fe]
theorem Sa{g:Gh}{n b o cap m:Nat}{k:Bool}{c:ρ}(h:nu g n b o cap c):nu (g.cut m) n b o cap (c.exp m k):=by
 cases c with
 |any=>trivial
 |nil=>exact h
 |full=>
  simp only[ρ.exp]
  split
  ·exact h
  ·trivial
 |own t=>
  simp only[ρ.exp]
  split
  ·rename_i hk;simp only[ej,decide_eq_true_eq]at hk;exact⟨h.1,by simp only[Gh.cut,hk.2,if_true];exact h.2⟩
  ·trivial
theorem VR.exp{g:Gh}{lb lb':LB}{v:AV}{x:Value}(m:Nat)(k:Bool)(h:VR g lb v x):VR (g.cut m) lb' (exp m k v) x:=by
 induction h generalizing lb' with
 |undef=>exact .undef _
 |cY _ x h=>exact .cY _ x h
 |int _ k n=>exact .int _ k n
 |bool _ b=>exact .bool _ b
 |str _ b s h=>exact .str _ b s h
 |iW=>exact .iW _
 |aj _ d v off b h=>exact .cY _ _ rfl
 |μ _ id off b h=>
  simp only[Θ.exp]
  split
  ·rename_i hi;exact .μ _ id off b (by simp only[Gh.cut,hi,if_true];exact h)
  ·exact .cY _ _ rfl
 |ref _ l b o xs cC _ ih=>
  simp only[Θ.exp,fe]
  refine .ref _ _ b o xs (fun i hi=>cC i (by simpa using hi)) (fun i hi=>?_);simp only[ja];exact ih i (by simpa using hi)
 |iU=>
  simp only[Θ.exp,fe,aJ,ρ.exp]
  exact .iU _
 |iw _ c a cap hc=>
  simp only[Θ.exp,fe,aJ]
  refine .iw _ _ a cap ?_;rcases hc with rfl|⟨rfl,h⟩
  ·exact .inl rfl
  ·simp only[ρ.exp];split
   ·exact .inr ⟨rfl,h⟩
   ·exact .inl rfl
 |sl _ kd id off n cap gq b hc eG h=>
  simp only[Θ.exp]
  split
  ·rename_i hi;exact .sl _ kd id off n cap gq b hc eG (by simp only[Gh.cut,hi,if_true];exact h)
  ·exact .cY _ _ rfl
 |list _ c l b o sz n cap xs hn dQ hc aL cC _ ih=>
  simp only[Θ.exp,fe]
  refine .list _ _ _ b o sz n cap xs (by simpa using hn) dQ (Sa hc) ?_ cC ?_
  ·intro e he;obtain⟨e',qJ,rfl⟩:=eP.1 he;rw[FX,cg];exact aL e' qJ
  ·intro i hi j hj;have ae:i<l.length:=by simpa using hi
   have dL:j<l[i].cells.length:=by simpa[FX]using hj
   have:=ih i ae j dL (lb':=bV);simpa[FX]using this
 |agg _ l a hs h1 _ ih=>
  simp only[Θ.exp,fe]
  refine .agg _ _ a (by simpa using hs) h1 fun i hi ae=>?_;simp only[ja];exact ih i (by simpa using hi) ae
 |aQ _ l a hs _ ih=>
  simp only[Θ.exp,fe]
  refine .aQ _ _ a (by simpa using hs) fun i hi ae=>?_;simp only[ja];exact ih i (by simpa using hi) ae
 |fn _ f f' l m' a b hs ht hy _ _ qZ pg=>
  simp only[Θ.exp,fe]
  split
  ·rename_i hf;refine .fn _ f f' _ _ a b (by simpa using hs) (by simpa using ht) ?_ (fun i hi ae=>?_) (fun i hi ae=>?_)
   ·cases f<;>cases f'<;>first|exact hy|exact hy.elim|skip
    simp only[Fn.below,decide_eq_true_eq]at hf;simp only[sK,Gh.cut,hf,if_true];exact hy
   ·simp only[ja];exact qZ i (by simpa using hi) ae
   ·simp only[ja];exact pg i (by simpa using hi) ae
  ·exact .cY _ _ rfl
 |fX=>exact .fX _
 |iface _ t v x _ ih=>exact .iface _ t _ x ih
 |gy=>exact .gy _
 |map _ id b h=>
  simp only[Θ.exp]
  split
  ·rename_i hi;exact .map _ id b (by simp only[Gh.cut,hi,if_true];exact h)
  ·exact .cY _ _ rfl
 |gZ=>exact .gZ _
theorem FY(v:AV):(ν v).cells=v.cells.map ν:=by cases v<;>simp[ν,AV.cells,fH]
theorem VR.ν{g:Gh}{lb lb':LB}{v:AV}{x:Value}(h:VR g lb v x):VR g lb' (ν v) x:=by
 induction h generalizing lb' with
 |undef=>exact .undef _
 |cY _ x h=>exact .cY _ x h
 |int _ k n=>exact .int _ k n
 |bool _ b=>exact .bool _ b
 |str _ b s h=>exact .str _ b s h
 |iW=>exact .iW _
 |aj _ d v off b h=>exact .cY _ _ rfl
 |μ _ id off b h=>exact .μ _ id off b h
 |ref _ l b o xs cC _ ih=>
  simp only[Θ.ν,fH]
  refine .ref _ _ b o xs (fun i hi=>cC i (by simpa using hi)) (fun i hi=>?_);simp only[ja];exact ih i (by simpa using hi)
 |iU=>
  simp only[Θ.ν,fH,aJ]
  exact .iU _
 |iw _ c a cap hc=>
  simp only[Θ.ν,fH,aJ]
  exact .iw _ c a cap hc
 |sl _ kd id off n cap gq b hc eG h=>exact .sl _ kd id off n cap gq b hc eG h
 |list _ c l b o sz n cap xs hn dQ hc aL cC _ ih=>
  simp only[Θ.ν,fH]
  refine .list _ _ _ b o sz n cap xs (by simpa using hn) dQ hc ?_ cC ?_
  ·intro e he;obtain⟨e',qJ,rfl⟩:=eP.1 he;rw[FY,cg];exact aL e' qJ
  ·intro i hi j hj;have ae:i<l.length:=by simpa using hi
   have dL:j<l[i].cells.length:=by simpa[FY]using hj
   have:=ih i ae j dL (lb':=bV);simpa[FY]using this
 |agg _ l a hs h1 _ ih=>
  simp only[Θ.ν,fH]
  refine .agg _ _ a (by simpa using hs) h1 fun i hi ae=>?_;simp only[ja];exact ih i (by simpa using hi) ae
 |aQ _ l a hs _ ih=>
  simp only[Θ.ν,fH]
  refine .aQ _ _ a (by simpa using hs) fun i hi ae=>?_;simp only[ja];exact ih i (by simpa using hi) ae
 |fn _ f f' l m' a b hs ht hy _ _ qZ pg=>
  simp only[Θ.ν,fH]
  refine .fn _ f f' _ _ a b (by simpa using hs) (by simpa using ht) hy (fun i hi ae=>?_) (fun i hi ae=>?_)
  ·simp only[ja];exact qZ i (by simpa using hi) ae
  ·simp only[ja];exact pg i (by simpa using hi) ae
 |fX=>exact .fX _
 |iface _ t v x _ ih=>exact .iface _ t _ x ih
 |gy=>exact .gy _
 |map _ id b h=>exact .map _ id b h
 |gZ=>exact .gZ _
theorem VR.cells{g:Gh}{lb:LB}{v:AV}{x:Value}(h:VR g lb v x)(hn:v.cells≠[]):
  x.cells.size=v.cells.length/\(∀i (hi:i<v.cells.length) (ae:i<x.cells.size),VR g lb v.cells[i] x.cells[i])/\(∀i (ae:i<x.cells.size),x.cells[i].oneCell'=true):=by
 cases h with
 |undef=>exact absurd rfl hn
 |aQ _ l a hs hv=>exact absurd rfl hn
 |agg _ l a hs h1 hv=>exact⟨hs,fun i hi ae=>hv i hi ae,h1⟩
 |cY _ x h=>
  have hx:x.cells= #[x]:=by cases x<;>simp_all [Value.cells,Value.oneCell']
  refine⟨by simp[hx,AV.cells],fun i hi ae=>?_,fun i ae=>?_⟩
  ·have:i=0:=by simpa[AV.cells]using hi
   subst this;simp only[hx,AV.cells];exact .cY _ x h
  ·have:i=0:=by simpa[hx]using ae
   subst this;simpa[hx]using h
 |_=>
  refine⟨by simp[Value.cells,AV.cells],fun i hi ae=>?_,fun i ae=>?_⟩
  ·have:i=0:=by simpa[AV.cells]using hi
   subst this;simp only[Value.cells,AV.cells,kJ,List.getElem_toArray];constructor<;>assumption
  ·have:i=0:=by simpa[Value.cells]using ae
   subst this;simp[Value.cells,Value.oneCell']
open Go.RowKit (Below)
inductive Own
 |m (id:Nat)
 |l (d:Nat)
abbrev OW:=Nat->Option Own
abbrev eY:=Nat->AC->Code->Prop
def ru(g:Gh)(lb:LB)(own:OW)(w:World)(nm:Own)(b:Nat)(l:List AV):Prop:=
 own b=some nm/\(∀o,g.im b o=none)/\∃(a:Array Value) (e:TypeId),w.heap[b]?=some (.cells a e (0,0))/\l.length<=a.size∧
  (∀i (h:i<l.length) (h':i<a.size),VR g lb l[i] a[i])/\∀i (h':i<a.size),a[i].oneCell'=true
def Qb:LS->Loop->Prop
 | .ready,L=>L.state= .ready/\L.pending.isNone
 | .busy,L=>L.state= .busy
 | .done none,L=>L.state= .done/\(match L.pending with|some .ret=>True|_=>False)
 | .done (some i),L=>L.state= .done/\(match L.pending with|some (.exit j)=>j=i|_=>False)
def tR(g:Gh)(own:OW)(LC:eY)(w:World)(id:Nat):θ->Prop
 | .cells l=>∃b,g.mb id=some b/\ru g bV own w (.m id) b l
 | .iter _ _=>False
 | .dead=>True
 | .nX T e s=>∃b,g.mb id=some b/\own b=some (.m id)/\(∀o,g.im b o=none)/\∃(p v:Value),w.heap[b]?=some (.cells #[p,v] T (0,0))∧
   (p= .pointer none\/p= .pointer (some ⟨b,0,none⟩))/\(∀x∈s,x<256)∧
   ((v= .slice none 0 0/\s=[])\/∃(r cap:Nat) (cur:Array Value),v= .slice (some ⟨r,0,none⟩) s.length cap/\own r=some (.m id)/\r≠b/\(∀o,g.im r o=none)/\s≠[]∧
    w.heap[r]?=some (.cells cur e (0,0))/\cur.size=cap/\s.length<=cap/\cap<=maxLen/\∀i (h:i<s.length),cur[i]?=some (.int .u8 s[i]))
 | .map es=>∃b,g.mb id=some b/\own b=some (.m id)/\(∀o,g.im b o=none)/\∃(a:Array MapEntry) (clock:Nat),w.heap[b]?=some (.map a clock)/\a.size=es.length∧
   (∀i (h:i<es.length) (h':i<a.size),VR g bV es[i].1 a[i].key/\VR g bV es[i].2 a[i].val)/\∀p∈es,plain p.1=true/\plain p.2=true
 | .front n sz e=>0<sz/\∃b cap,g.rows id n=some (b,cap)/\n<=cap/\own b=some (.m id)/\(∃a:Array Value,w.heap[b]?=some (.cells a e (0,0))/\a.size=cap*sz)∧
   (∀o,n*sz<=o->g.im b o=none)/\(∀m x,g.rows id m=some x->m<=n)/\g.mb id=none
 | .loop env ps fQ body st=>∃b,g.mb id=some b/\own b=some (.m id)/\(∀o,g.im b o=none)/\∃(L:Loop) (N:Nat),w.heap[b]?=some (.loop L)∧
   (∀t,VR g bV (aK env t) (L.tmps.getD t undef))/\L.params=ps.toArray/\N<=L.tmps.size/\(∀p∈ps,p<N)/\LC N fQ L.assign/\LC N body L.body/\Qb st L∧
   ∀t,∃(g0:Gh) (x0:Value),(∀i b,g0.mb i=some b->i<id)/\(∀i m y,g0.rows i m=some y->i<id)/\VR g0 bV (aK env t) x0
structure bc (g:Gh) (own:OW) (LC:eY) (mem:Mem) (w:World):Prop where
 jx:∀id b,g.mb id=some b->id<mem.ε.length
 nO:∀t n x,g.rows t n=some x->t<mem.ε.length
 blk:∀id blk,mem.ε[id]?=some blk->tR g own LC w id blk
 im:∀b o x,g.im b o=some x->w.cell? ⟨b,o,none⟩=some x
structure cz (g:Gh) (lb:LB) (own:OW) (loc:Nat->Option (Nat×θ)) (w:World):Prop where
 cells:∀d v l,loc d=some (v,.cells l)->∃b,lb d v=some b/\ru g lb own w (.l d) b l
 iter:∀d v s pos,loc d=some (v,.iter s pos)->∃b,lb d v=some b/\own b=some (.l d)/\(∀o,g.im b o=none)∧
   ∃bs:ByteArray,w.heap[b]?=some (.stringIter bs pos)/\bs.data.toList.map UInt8.toNat=s
 wu:∀d v b,lb d v=some b->∃v' blk,loc d=some (v',blk)/\v<=v'
structure bT (base:Nat) (own:OW) (w:World):Prop where
 ge:∀b o,own b=some o->base<=b/\b<w.heap.size
 base:base<=w.heap.size
structure eE (g:Gh) (own:OW) (w:World) (g':Gh) (aD:OW) (w':World):Prop where
 sub:g.sub g'
 size:w.heap.size<=w'.heap.size
 os:w'.os=w.os
 tape:w'.tape=w.tape
 output:w'.output=w.output
 bf:∀b,b<w.heap.size->own b=none->w'.heap[b]?=w.heap[b]?
 jI:∀b,b<w.heap.size->own b=none->aD b=none
 im:∀b,b<w.heap.size->own b=none->∀o,g'.im b o=g.im b o
theorem eE.refl(g:Gh)(own:OW)(w:World):eE g own w g own w:=
 ⟨g.eS,bS _,rfl,rfl,rfl,fun _ _ _=>rfl,fun _ _ h=>h,fun _ _ _ _=>rfl⟩
theorem eE.trans{g1 g2 g3:Gh}{o1 o2 o3:OW}{w1 w2 w3:World}(h:eE g1 o1 w1 g2 o2 w2)(k:eE g2 o2 w2 g3 o3 w3):eE g1 o1 w1 g3 o3 w3:= {
 sub:=Gh.Cf h.sub k.sub
 size:=Nat.le_trans h.size k.size
 os:=k.os.trans h.os
 tape:=k.tape.trans h.tape
 output:=k.output.trans h.output
 bf b hb ho:=(k.bf b (ku hb h.size) (h.jI b hb ho)).trans (h.bf b hb ho)
 jI b hb ho:=k.jI b (ku hb h.size) (h.jI b hb ho)
 im b hb ho o:=(k.im b (ku hb h.size) (h.jI b hb ho) o).trans (h.im b hb ho o)}
theorem eE.below{base:Nat}{g g':Gh}{own aD:OW}{w w':World}(h:eE g own w g' aD w')(ho:bT base own w):Below base w w':=
 ⟨h.os,h.tape,h.output,h.size,fun k hk=>h.bf k (ku hk ho.base) (by
  cases hx:own k with
  |none=>rfl
  |some o=>have:=(ho.ge k o hx).1;omega)⟩
theorem qC{w w':World}{b o:Nat}(h:w'.heap[b]?=w.heap[b]?):w'.cell? ⟨b,o,none⟩=w.cell? ⟨b,o,none⟩:=by simp[sN,h]
theorem ru.bf{g g':Gh}{lb lb':LB}{own aD:OW}{w w':World}{nm:Own}{b:Nat}{l:List AV}(h:ru g lb own w nm b l)
  (hg:g.sub g') (hl:∀d i b,lb d i=some b->lb' d i=some b) (ho:aD b=own b) (hw:w'.heap[b]?=w.heap[b]?) (hi:∀o,g'.im b o=g.im b o):ru g' lb' aD w' nm b l:=by
 obtain⟨h1,h2,a,e,h3,h4,h5,h6⟩:=h;exact⟨ho.trans h1,fun o=>(hi o).trans (h2 o),a,e,hw.trans h3,h4,fun i hi ae=>(h5 i hi ae).mono hg hl,h6⟩
theorem tR.bf{g g':Gh}{own aD:OW}{LC:eY}{w w':World}{id:Nat}{blk:θ}(h:tR g own LC w id blk)(hg:g.sub g')
  (hb:∀b,own b=some (.m id)->aD b=own b/\w'.heap[b]?=w.heap[b]?/\∀o,g'.im b o=g.im b o)
  (hr:∀n,g.rows id n=none->g'.rows id n=none) (hm:g.mb id=none->g'.mb id=none):tR g' aD LC w' id blk:=by
 cases blk with
 |cells l=>
  obtain⟨b,h1,h2⟩:=h
  obtain⟨k1,k2,k3⟩:=hb b h2.1;exact⟨b,hg.2.1 _ _ h1,h2.bf hg (fun _ _ _ h=>h) k1 k2 k3⟩
 |iter s pos=>exact h
 |dead=>trivial
 |nX T e s=>
  obtain⟨b,h1,h2,h3,p,v,h4,h5,h6,h7⟩:=h
  obtain⟨k1,k2,k3⟩:=hb b h2;refine⟨b,hg.2.1 _ _ h1,k1.trans h2,fun o=>(k3 o).trans (h3 o),p,v,k2.trans h4,h5,h6,?_⟩;rcases h7 with h7|⟨r,cap,cur,q1,q2,q3,q4,q5,q6,q7⟩
  ·exact .inl h7
  ·obtain⟨l1,l2,l3⟩:=hb r q2;exact .inr ⟨r,cap,cur,q1,l1.trans q2,q3,fun o=>(l3 o).trans (q4 o),q5,l2.trans q6,q7⟩
 |map es=>
  obtain⟨b,h1,h2,h3,a,c,h4,h5,h6,h7⟩:=h
  obtain⟨k1,k2,k3⟩:=hb b h2;exact⟨b,hg.2.1 _ _ h1,k1.trans h2,fun o=>(k3 o).trans (h3 o),a,c,k2.trans h4,h5,fun i hi ae=>⟨(h6 i hi ae).1.sub hg,(h6 i hi ae).2.sub hg⟩,h7⟩
 |front n sz e=>
  obtain⟨h0,b,cap,h1,h2,h3,⟨a,h4,h5⟩,h6,h7,h8⟩:=h
  obtain⟨k1,k2,k3⟩:=hb b h3;refine⟨h0,b,cap,hg.2.2 _ _ _ h1,h2,k1.trans h3,⟨a,k2.trans h4,h5⟩,fun o ho=>(k3 o).trans (h6 o ho),fun m x hx=>?_,hm h8⟩;cases hy:g.rows id m with
  |none=>rw[hr m hy]at hx;cases hx
  |some y=>exact h7 m y hy
 |loop env ps fQ body st=>
  obtain⟨b,h1,h2,h3,L,N,h4,h5,h6⟩:=h
  obtain⟨k1,k2,k3⟩:=hb b h2;exact⟨b,hg.2.1 _ _ h1,k1.trans h2,fun o=>(k3 o).trans (h3 o),L,N,k2.trans h4,fun t=>(h5 t).sub hg,h6⟩
theorem XC{g:Gh}{lb:LB}{own:OW}{LC:eY}{loc:Nat->Option (Nat×θ)}{mem:Mem}{w:World}(hm:bc g own LC mem w)(hl:cz g lb own loc w)
  {p:AV} {x:Value} {n:Nat} {cs:List AV} (hp:VR g lb p x) (hr:rd loc mem p n=some cs):
  ∃(b o:Nat) (vs:List Value),x= .pointer (some ⟨b,o,none⟩)/\vs.length=n/\cs.length=n/\w.rangeAt b o vs∧
   (∀i (h:i<cs.length) (h':i<vs.length),VR g lb cs[i] vs[i])/\∀v∈vs,v.oneCell'=true:=by
 have key:∀(b off:Nat) (l:List AV) (lb':LB) (nm:Own),ru g lb' own w nm b l->(∀d i b,lb' d i=some b->lb d i=some b)->off+n<=l.length->cs=(l.drop off).take n→
   ∃vs:List Value,vs.length=n/\cs.length=n/\w.rangeAt b off vs/\(∀i (h:i<cs.length) (h':i<vs.length),VR g lb cs[i] vs[i])/\∀v∈vs,v.oneCell'=true:=by
  rintro b off l lb' nm ⟨_,_,a,e,h3,h4,h5,h6⟩ qP hle rfl
  refine⟨(a.toList.drop off).take n,by simp;omega,by simp;omega,?_,?_,?_⟩
  ·intro j v hv;rw[Ar]at hv;split at hv
   ·rw[alr]at hv;simpa[sN,h3]using hv
   ·cases hv
  ·intro i h h';simp only[Cs,yg,mz];have hi:i<n:=by simp at h;omega
   exact(h5 (off+i) (by omega) (by omega)).mono g.eS qP
  ·intro v hv;have:=tW (qt hv);obtain⟨i,hi,rfl⟩:=pG.1 this;simpa using h6 i (by simpa using hi)
 cases p with
 |aj d v off=>
  cases hp with
  |aj _ _ _ _ b hb=>
  simp only[rd]at hr
  split at hr
  ·rename_i v' l hd;split at hr
   ·rename_i hc;obtain⟨rfl,hle⟩:=hc;obtain⟨b',aY,oX⟩:=hl.cells d _ l hd;rw[hb]at aY;cases aY;obtain⟨vs,k⟩:=key b off l lb (.l d) oX (fun _ _ _ h=>h) hle (by simpa using hr.symm);exact⟨b,off,vs,rfl,k⟩
   ·cases hr
  ·cases hr
 |μ id off=>
  cases hp with
  |μ _ _ _ b hb=>
  simp only[rd]at hr
  split at hr
  ·rename_i l hd;split at hr
   ·rename_i hle;obtain⟨b',aY,oX⟩:=hm.blk id _ hd;rw[hb]at aY;cases aY;obtain⟨vs,k⟩:=key b off l bV (.m id) oX (fun _ _ _ h=>by cases h) hle (by simpa using hr.symm);exact⟨b,off,vs,rfl,k⟩
   ·cases hr
  ·cases hr
 |ref l=>
  cases hp with
  |ref _ _ b o xs cC hv=>
  simp only[rd]at hr
  split at hr
  ·rename_i hle;simp only[bh]at hr;subst hr;refine⟨b,o,(ry n).map xs,rfl,by simp,by simp;omega,?_,?_,?_⟩
   ·intro j v nI;simp only[lB,bD]at nI;obtain⟨i,hi,rfl⟩:=nI;have hj:j<n:=by
     rcases da j n with h|h
     ·exact h
     ·rw[h_ (by simpa using h)]at hi;cases hi
    rw[als hj]at hi;cases hi;exact hm.im _ _ _ (cC j (by omega)).1
   ·intro i h h';simp only[Cs,ja,Kd];exact(hv i (by simp at h;omega)).mono g.eS fun _ _ _ h=>by cases h
   ·intro v nI;obtain⟨i,hi,rfl⟩:=eP.1 nI;exact(cC i (by have:=Av.1 hi;omega)).2
  ·cases hr
 |_=>simp[rd]at hr
def nQ(loc:Nat->Option (Nat×θ)):kL->Nat->Option (Nat×θ)
 |none=>loc
 |some (d,v,b)=>fun d'=>if d=d' then some (v,b)else loc d'
theorem OL(loc:Loc)(u:kL):bQ (eN loc u)=nQ (bQ loc) u:=by
 funext d';cases u with
 |none=>rfl
 |some x=>obtain⟨d,v,b⟩:=x;simp[eN,nQ,iu]
def ib(base:Nat)(LC:eY)(g:Gh)(lb:LB)(own:OW)(loc:Nat->Option (Nat×θ))(w:World)(v:AV)(u:kL)(m':Mem)(x:Value)(w':World):Prop:=
 ∃(g':Gh) (lb':LB) (aD:OW),eE g own w g' aD w'/\(∀d i b,lb d i=some b->lb' d i=some b)/\VR g' lb' v x/\bc g' aD LC m' w'∧
  cz g' lb' aD (nQ loc u) w'/\bT base aD w'
section
variable{base:Nat}{LC:eY}{g g':Gh}{lb lb':LB}{own aD:OW}{loc:Nat->Option (Nat×θ)}{mem:Mem}{w w':World}
theorem ib.pure{v:AV}{x:Value}(hm:bc g own LC mem w)(hl:cz g lb own loc w)(ho:bT base own w)(h:VR g lb v x):ib base LC g lb own loc w v none mem x w:=
 ⟨g,lb,own,.refl g own w,fun _ _ _ h=>h,h,hm,hl,ho⟩
theorem bc.bf(h:bc g own LC mem w)(hg:g.sub g')(DB:∀id,g.mb id=none->g'.mb id=none)(oA:∀t n,g.rows t n=none->g'.rows t n=none)
  (hb:∀id b,own b=some (.m id)->aD b=own b/\w'.heap[b]?=w.heap[b]?/\∀o,g'.im b o=g.im b o)
  (cC:∀b o x,g'.im b o=some x->w'.cell? ⟨b,o,none⟩=some x):bc g' aD LC mem w':= {
 jx id b aY:=by
  cases hx:g.mb id with
  |none=>rw[DB id hx]at aY;cases aY
  |some c=>exact h.jx id c hx
 nO t n x hx:=by
  cases hy:g.rows t n with
  |none=>rw[oA t n hy]at hx;cases hx
  |some y=>exact h.nO t n y hy
 blk id blk hid:=(h.blk id blk hid).bf hg (hb id) (oA id) (DB id)
 im:=cC}
theorem cz.bf(h:cz g lb own loc w)(hg:g.sub g')
  (hb:∀d b,own b=some (.l d)->aD b=own b/\w'.heap[b]?=w.heap[b]?/\∀o,g'.im b o=g.im b o):cz g' lb aD loc w':= {
 cells d v l hd:=by obtain⟨b,h1,h2⟩:=h.cells d v l hd;obtain⟨k1,k2,k3⟩:=hb d b h2.1;exact⟨b,h1,h2.bf hg (fun _ _ _ h=>h) k1 k2 k3⟩
 iter d v s pos hd:=by obtain⟨b,h1,h2,h3,bs,h4,h5⟩:=h.iter d v s pos hd;obtain⟨k1,k2,k3⟩:=hb d b h2;exact⟨b,h1,k1.trans h2,fun o=>(k3 o).trans (h3 o),bs,k2.trans h4,h5⟩
 wu:=h.wu}
theorem um(w:World)(o:Obj){b:Nat}(h:b<w.heap.size):(w.alloc o).heap[b]?=w.heap[b]?:=Go.RowKit.Below.heap_alloc w o b h
theorem qK(w:World)(o:Obj):(w.alloc o).heap[w.heap.size]?=some o:=by show(w.heap.push o)[w.heap.size]?=_;simp
theorem wP{w:World}{b o:Nat}{x:Value}(h:w.cell? ⟨b,o,none⟩=some x):b<w.heap.size:=by
 unfold sN at h;split at h
 ·rename_i heq;exact(An.1 heq).1
 ·cases h
theorem ib.drew{v:AV}{u:kL}{m':Mem}{x:Value}(h:ib base LC g lb own loc w.drew v u m' x w'):ib base LC g lb own loc w v u m' x w':=by obtain⟨g',lb',aD,hs,r⟩:=h;exact⟨g',lb',aD,⟨hs.sub,hs.size,hs.os,hs.tape,hs.output,hs.bf,hs.jI,hs.im⟩,r⟩
theorem bc.drew(h:bc g own LC mem w):bc g own LC mem w.drew:=
 h.bf g.eS (fun _ h=>h) (fun _ _ h=>h) (fun _ _ _=>⟨rfl,rfl,fun _=>rfl⟩) h.im
theorem cz.drew(h:cz g lb own loc w):cz g lb own loc w.drew:=h.bf g.eS fun _ _ _=>⟨rfl,rfl,fun _=>rfl⟩
theorem bT.drew(h:bT base own w):bT base own w.drew:=⟨h.ge,h.base⟩
def gP(own:OW)(b:Nat)(o:Option Own):OW:=fun b'=>if b'=b then o else own b'
theorem zR(ho:bT base own w){b:Nat}{o:Own}(h:own b=some o):b≠w.heap.size:=by have:=(ho.ge b o h).2;omega
theorem bc.alloc(h:bc g own LC mem w)(ho:bT base own w)(o:Obj)(nm:Option Own):bc g (gP own w.heap.size nm) LC mem (w.alloc o):=
 h.bf g.eS (fun _ h=>h) (fun _ _ h=>h)
  (fun id b hb=>⟨by simp[gP,zR ho hb],um w o (ho.ge b _ hb).2,fun _=>rfl⟩)
  (fun b o' x hx=>by
   have hc:=h.im b o' x hx
   rw[qC (um w o (wP hc))];exact hc)
theorem cz.alloc(h:cz g lb own loc w)(ho:bT base own w)(o:Obj)(nm:Option Own):cz g lb (gP own w.heap.size nm) loc (w.alloc o):=
 h.bf g.eS (fun d b hb=>⟨by simp[gP,zR ho hb],um w o (ho.ge b _ hb).2,fun _=>rfl⟩)
theorem eE.alloc(g:Gh)(own:OW)(w:World)(o:Obj)(nm:Option Own):eE g own w g (gP own w.heap.size nm) (w.alloc o):= {
 sub:=g.eS
 size:=by simp
 os:=rfl
 tape:=rfl
 output:=rfl
 bf b hb _:=um w o hb
 jI b hb h:=by simp only[gP];rw[if_neg (by omega)];exact h
 im _ _ _ _:=rfl}
theorem bT.alloc(h:bT base own w)(o:Obj)(nm:Option Own):bT base (gP own w.heap.size nm) (w.alloc o):= {
 ge b o' hb:=by
  simp only[gP]at hb;split at hb
  ·rename_i kC;subst kC;exact⟨h.base,by simp⟩
  ·have:=h.ge b o' hb;exact⟨this.1,by simp;omega⟩
 base:=by have:=h.base;simp;omega}
theorem xJ(h:bc g own LC mem w)(o:Nat):g.im w.heap.size o=none:=by
 cases hx:g.im w.heap.size o with
 |none=>rfl
 |some x=>have:=wP (h.im _ _ _ hx);omega
def tC(lb:LB)(d v b:Nat):LB:=fun d' v'=>if d'=d/\v'=v then some b else lb d' v'
theorem WH(h:cz g lb own loc w){d v b:Nat}(hb:lb d v=some b):v<bz loc d:=by obtain⟨v',blk,h1,h2⟩:=h.wu d v b hb;simp only[bz,h1];omega
theorem IZ(h:cz g lb own loc w)(d b:Nat):∀d' i b',lb d' i=some b'->tC lb d (bz loc d) b d' i=some b':=by
 intro d' i b' hb;simp only[tC];rw[if_neg]
 ·exact hb
 ·rintro⟨rfl,rfl⟩
  exact alu _ (WH h hb)
theorem cz.new(h:cz g lb own loc w)(ho:bT base own w)(d:Nat)(o:Obj)(blk:θ)
  (hc:∀l,blk= .cells l->ru g (tC lb d (bz loc d) w.heap.size) (gP own w.heap.size (some (.l d))) (w.alloc o) (.l d) w.heap.size l)
  (hi:∀s pos,blk= .iter s pos->(∀o,g.im w.heap.size o=none)/\∃bs:ByteArray,o= .stringIter bs pos/\bs.data.toList.map UInt8.toNat=s):
  cz g (tC lb d (bz loc d) w.heap.size) (gP own w.heap.size (some (.l d))) (nQ loc (some (d,bz loc d,blk))) (w.alloc o):=by
 have h':=h.alloc ho o (some (.l d));have hs:=IZ h d w.heap.size;refine⟨fun d' v l hd=>?_,fun d' v s pos hd=>?_,fun d' v b hb=>?_⟩
 ·simp only[nQ]at hd;split at hd
  ·rename_i iq;subst iq;cases hd;exact⟨w.heap.size,by simp[tC],hc l rfl⟩
  ·obtain⟨b,h1,h2⟩:=h'.cells d' v l hd;exact⟨b,hs _ _ _ h1,h2.bf g.eS hs rfl rfl fun _=>rfl⟩
 ·simp only[nQ]at hd;split at hd
  ·rename_i iq;subst iq;cases hd;obtain⟨k1,bs,rfl,k2⟩:=hi s pos rfl;exact⟨w.heap.size,by simp[tC],by simp[gP],k1,bs,qK w _,k2⟩
  ·obtain⟨b,h1,r⟩:=h'.iter d' v s pos hd;exact⟨b,hs _ _ _ h1,r⟩
 ·simp only[tC]at hb;split at hb
  ·rename_i iq;obtain⟨rfl,rfl⟩:=iq;exact⟨_,blk,by simp[nQ],bS _⟩
  ·by_cases iq:d=d'
   ·subst iq;exact⟨_,blk,by simp[nQ],Ax (WH h hb)⟩
   ·obtain⟨v',KB,h1,h2⟩:=h.wu d' v b hb;exact⟨v',KB,by simp[nQ,iq,h1],h2⟩
theorem bc.push{o':OW}(h:bc g own LC mem w)(hk:bc g o' LC mem w')(blk:θ)(mZ:Nat->Option Nat)
  (jA:∀id b,mZ id=some b->g.mb id=some b\/id=mem.ε.length) (U1:∀id,id<mem.ε.length->mZ id=g.mb id)
  (tm:tR {g with mb:=mZ} o' LC w' mem.ε.length blk):bc {g with mb:=mZ} o' LC (mem.push blk) w':=by
 have dh:g.sub {g with mb:=mZ}:=⟨fun _ _ _ h=>h,fun id b hb=>by rw[<-hb];exact U1 id (h.jx id b hb),fun _ _ _ h=>h⟩;refine⟨fun id b hb=>?_,fun t n x hx=>?_,fun id KB hid=>?_,hk.im⟩
 ·simp only[Mem.push,cI,cD,eO];rcases jA id b hb with aY|rfl
  ·have:=h.jx id b aY;omega
  ·omega
 ·have:=h.nO t n x hx;simp only[Mem.push,cI,cD,eO];omega
 ·simp only[Mem.push]at hid;rcases da id mem.ε.length with ψ|dD
  ·rw[ek ψ]at hid;exact(hk.blk id KB hid).bf dh (fun _ _=>⟨rfl,rfl,fun _=>rfl⟩) (fun _ h=>h) (fun hn=>by show mZ id=none;rw[U1 id ψ];exact hn)
  ·rw[tV dD]at hid;have:id=mem.ε.length:=by
    rcases da 0 (id-mem.ε.length)with h0|h0
    ·rw[h_ (by simp;omega)]at hid;cases hid
    ·omega
   subst this;simp at hid;subst hid;exact tm
theorem I_{v:AV}{x:Value}(_h:bc g own LC mem w)(hv:VR g lb v x):VR g bV (mem.ν v) x:=VR.ν hv
theorem agt(hm:bc g own LC mem w)(hl:cz g lb own loc w)(ho:bT base own w){T e:TypeId}:
  ib base LC g lb own loc w (.μ mem.ε.length 0) none (mem.push (.nX T e [])) (.pointer (some ⟨w.heap.size,0,none⟩)) (w.alloc (.cells #[.pointer none,.slice none 0 0] T)):=by
 have cC:∀o,g.im w.heap.size o=none:=xJ hm;let g':Gh:= {g with mb:=fun id=>if id=mem.ε.length then some w.heap.size else g.mb id};have dh:g.sub g':=⟨fun _ _ _ h=>h,fun id b hb=>by
  have:=hm.jx id b hb
  simp only[g'];rw[if_neg (by omega)];exact hb,fun _ _ _ h=>h⟩
 have Ω:=eE.alloc g own w (.cells #[.pointer none,.slice none 0 0] T) (some (.m mem.ε.length));refine⟨g',lb,_,⟨dh,Ω.size,Ω.os,Ω.tape,Ω.output,Ω.bf,Ω.jI,Ω.im⟩,fun _ _ _ h=>h,.μ _ _ _ _ (by simp[g']),?_,?_,ho.alloc _ _⟩
 ·refine hm.push (hm.alloc ho _ _) _ _ (fun id b hb=>?_) (fun id hid=>?_) ?_
  ·split at hb
   ·exact .inr (by assumption)
   ·exact .inl hb
  ·exact if_neg (by omega)
  ·exact⟨w.heap.size,by simp,by simp[gP],cC,_,_,qK w _,.inl rfl,fun x hx=>(by cases hx),.inl ⟨rfl,rfl⟩⟩
 ·exact(hl.alloc ho _ _).bf dh fun _ _ _=>⟨rfl,rfl,fun _=>rfl⟩
theorem WG(hm:bc g own LC mem w)(hl:cz g lb own loc w)(ho:bT base own w){oU:Bool}{dst:Option Nat}{l:List AV}{cs:Array Value}{e:TypeId}
  (hs:l.length<=cs.size) (hv:∀i (h:i<l.length) (h':i<cs.size),VR g lb l[i] cs[i]) (h1:∀i (h':i<cs.size),cs[i].oneCell'=true)
  {v:AV} {u:kL} {m':Mem} (hr:newVar loc mem oU dst l=some (v,u,m')):
  ib base LC g lb own loc w v u m' (.pointer (some ⟨w.heap.size,0,none⟩)) (w.alloc (.cells cs e)):=by
 have cC:∀o,g.im w.heap.size o=none:=xJ hm;unfold newVar at hr;split at hr
 ·simp only[bh,aA]at hr;obtain⟨rfl,rfl,rfl⟩:=hr;let g':Gh:= {g with mb:=fun id=>if id=mem.ε.length then some w.heap.size else g.mb id};have dh:g.sub g':=⟨fun _ _ _ h=>h,fun id b hb=>by
   have:=hm.jx id b hb
   simp only[g'];rw[if_neg (by omega)];exact hb,fun _ _ _ h=>h⟩
  have Ω:=eE.alloc g own w (.cells cs e) (some (.m mem.ε.length));refine⟨g',lb,_,⟨dh,Ω.size,Ω.os,Ω.tape,Ω.output,Ω.bf,Ω.jI,Ω.im⟩,fun _ _ _ h=>h,.μ _ _ _ _ (by simp[g']),?_,?_,ho.alloc _ _⟩
  ·refine hm.push (hm.alloc ho _ _) _ _ (fun id b hb=>?_) (fun id hid=>?_) ?_
   ·split at hb
    ·exact .inr (by assumption)
    ·exact .inl hb
   ·exact if_neg (by omega)
   ·refine⟨w.heap.size,by simp,by simp[gP],cC,cs,e,qK w _,by simpa using hs,fun i hi ae=>?_,h1⟩;simp only[ja];exact(I_ hm (hv i (by simpa using hi) ae)).sub dh
  ·exact(hl.alloc ho _ _).bf dh fun _ _ _=>⟨rfl,rfl,fun _=>rfl⟩
 ·split at hr
  ·rename_i d;simp only[bh,aA]at hr;obtain⟨rfl,rfl,rfl⟩:=hr;refine⟨g,tC lb d (bz loc d) w.heap.size,_,.alloc g own w _ (some (.l d)),IZ hl d _,.aj _ _ _ _ _ (by simp[tC]),hm.alloc ho _ _,?_,ho.alloc _ _⟩;refine hl.new ho d _ _ (fun l' iH=>?_) (fun s pos h=>by cases h);cases iH;exact⟨by simp[gP],cC,cs,e,qK w _,hs,fun i hi ae=>(hv i hi ae).mono g.eS (IZ hl d _),h1⟩
  ·cases hr
theorem O4(hm:bc g own LC mem w)(hl:cz g lb own loc w)(ho:bT base own w){oU:Bool}{dst:Option Nat}{l:List AV}{cs:Array Value}{e:TypeId}
  (hs:cs.size=l.length) (hv:∀i (h:i<l.length) (h':i<cs.size),VR g lb l[i] cs[i]) (h1:∀i (h':i<cs.size),cs[i].oneCell'=true)
  {v:AV} {u:kL} {m':Mem} (hr:newVar loc mem oU dst l=some (v,u,m')):
  ib base LC g lb own loc w v u m' (.pointer (some ⟨w.heap.size,0,none⟩)) (w.alloc (.cells cs e)):=WG hm hl ho (by omega) hv h1 hr
end
def PW{α β:Type}(R:α->β->Prop)(l:List α)(m:List β):Prop:=l.length=m.length/\∀i (h:i<l.length) (h':i<m.length),R l[i] m[i]
section
variable{α β:Type}{R:α->β->Prop}
theorem PW.append{l l':List α}{m m':List β}(h:PW R l m)(h':PW R l' m'):PW R (l++l') (m++m'):=by
 refine⟨by simp[h.1,h'.1],fun i hi ae=>?_⟩;rcases da i l.length with ψ|dD
 ·rw[ye ψ,ye (by have:=h.1;omega)];exact h.2 i ψ _
 ·rw[yf dD,yf (by have:=h.1;omega)];have he:i-m.length=i-l.length:=by rw[h.1]
  have:=h'.2 (i-l.length) (by simp at hi;omega) (by simp at ae;have:=h.1;omega);simpa[h.1]using this
theorem PW.take{l:List α}{m:List β}(h:PW R l m)(n:Nat):PW R (l.take n) (m.take n):=by refine⟨by simp[h.1],fun i hi ae=>?_⟩;simp only[Cs];exact h.2 i _ _
theorem PW.drop{l:List α}{m:List β}(h:PW R l m)(n:Nat):PW R (l.drop n) (m.drop n):=by refine⟨by simp[h.1],fun i hi ae=>?_⟩;simp only[yg];exact h.2 _ _ _
theorem PW.mono{R':α->β->Prop}{l:List α}{m:List β}(h:PW R l m)(hr:∀a b,R a b->R' a b):PW R' l m:=⟨h.1,fun i hi ae=>hr _ _ (h.2 i hi ae)⟩
theorem PW.map{γ:Type}{R':γ->β->Prop}{l:List α}{m:List β}(f:α->γ)(h:PW R l m)(hr:∀a b,R a b->R' (f a) b):PW R' (l.map f) m:=
 ⟨by simp[h.1],fun i hi ae=>by simp only[ja];exact hr _ _ (h.2 i (by simpa using hi) ae)⟩
theorem PW.nil:PW R ([]:List α) ([]:List β):=⟨rfl,fun i h=>by simp at h⟩
theorem PW.cons{a:α}{b:β}{l:List α}{m:List β}(h:R a b)(hl:PW R l m):PW R (a::l) (b::m):=by
 refine⟨by simp[hl.1],fun i hi ae=>?_⟩;cases i with
 |zero=>exact h
 |succ i=>exact hl.2 i (by simpa using hi) (by simpa using ae)
end
section
variable{base:Nat}{LC:eY}{g g':Gh}{lb lb':LB}{own aD:OW}{loc:Nat->Option (Nat×θ)}{mem:Mem}{w w':World}
def arr(cur:Array Value)(off:Nat)(vs:List Value):Array Value:=(cur.toList.take off++vs++cur.toList.drop (off+vs.length)).toArray
theorem ru.pw{nm:Own}{b:Nat}{l:List AV}(h:ru g lb own w nm b l):∃a e,w.heap[b]?=some (.cells a e (0,0))/\PW (VR g lb) l (a.toList.take l.length)/\l.length<=a.size/\∀v∈a.toList,v.oneCell'=true:=by obtain⟨_,_,a,e,h3,h4,h5,h6⟩:=h;refine⟨a,e,h3,⟨by simp;omega,fun i hi ae=>by simpa using h5 i hi (by omega)⟩,h4,fun v hv=>?_⟩;obtain⟨i,hi,rfl⟩:=pG.1 hv;simpa using h6 i (by simpa using hi)
theorem Zd{α:Type}(x vs:List α){off n:Nat}(h:off+vs.length<=n)(hn:n<=x.length):(x.take off++vs++x.drop (off+vs.length)).take n=(x.take n).take off++vs++(x.take n).drop (off+vs.length):=by
 rw[List.take_take,Aq,Nat.min_eq_left (by omega)];have h1:(x.take off++vs).length=off+vs.length:=by simp;omega
 rw[List.take_append,h1,fo (by omega)]
theorem ru.store{nm:Own}{b:Nat}{l:List AV}(h:ru g lb own w nm b l){off:Nat}{cs:List AV}{vs:List Value}(cO:PW (VR g lb) cs vs)(h1:∀v∈vs,v.oneCell'=true)
  (hle:off+cs.length<=l.length):
  ∃a e,w.heap[b]?=some (.cells a e (0,0))/\off+vs.length<=a.size/\ru g lb own (w.setRow b (arr a off vs)) nm b (dk l off cs):=by
 obtain⟨a,e,ha,hp,hl,ho⟩:=h.pw;have hc:=cO.1;have BC:PW (VR g lb) (dk l off cs) ((a.toList.take off++vs++a.toList.drop (off+vs.length)).take l.length):=by rw[Zd _ _ (by omega) (by simpa using hl)];unfold dk;rw[hc];exact((hp.take off).append cO).append (hp.drop _)
 have jZ:(dk l off cs).length=l.length:=by simp[dk];omega
 refine⟨a,e,ha,by omega,h.1,h.2.1,arr a off vs,e,setRow_heap w b a _ e _ ha,?_,?_,?_⟩
 ·rw[jZ];simp[arr];omega
 ·intro i hi ae;have:=BC.2 i hi (by rw[List.length_take];simp[arr]at ae⊢;omega);simpa[arr]using this
 ·intro i hi;have hm:(arr a off vs)[i]∈(a.toList.take off++vs++a.toList.drop (off+vs.length)):=by simp[arr]
  rcases dT.1 hm with hm|hm
  ·rcases dT.1 hm with hm|hm
   ·exact ho _ (qt hm)
   ·exact h1 _ hm
  ·exact ho _ (tW hm)
theorem bc.setRow_other(h:bc g own LC mem w){b:Nat}(a:Array Value)(hb:∀id,own b≠some (.m id))(cC:∀o,g.im b o=none):bc g own LC mem (w.setRow b a):=by
 refine h.bf g.eS (fun _ h=>h) (fun _ _ h=>h) (fun id b' aY=>⟨rfl,Go.setRow_other w b b' a ?_,fun _=>rfl⟩) (fun b' o x hx=>?_)
 ·rintro rfl;exact hb id aY
 ·have φ:b'≠b:=by rintro rfl;rw[cC]at hx;cases hx
  rw[qC (Go.setRow_other w b b' a φ)];exact h.im _ _ _ hx
theorem cz.setRow_other(h:cz g lb own loc w){b:Nat}(a:Array Value)(hb:∀d,own b≠some (.l d)):cz g lb own loc (w.setRow b a):=
 h.bf g.eS fun d b' aY=>⟨rfl,Go.setRow_other w b b' a (by rintro rfl;exact hb d aY),fun _=>rfl⟩
theorem eE.setRow(g:Gh){own:OW}(w:World){b:Nat}(a:Array Value){o:Own}(hb:own b=some o):eE g own w g own (w.setRow b a):= {
 sub:=g.eS
 size:=by simp
 os:=rfl
 tape:=rfl
 output:=rfl
 bf b' _ ho:=Go.setRow_other w b b' a (by rintro rfl;rw[hb]at ho;cases ho)
 jI _ _ h:=h
 im _ _ _ _:=rfl}
theorem bT.setRow(h:bT base own w)(b:Nat)(a:Array Value):bT base own (w.setRow b a):=⟨fun b' o hb=>by simpa using h.ge b' o hb,by simpa using h.base⟩
theorem bc.Ff(h:bc g own LC mem w){zx:Nat}{FH:θ}{t:List Nat}(h0:zx<mem.ε.length)(hg:g.sub g')(DB:∀id,g.mb id=none->g'.mb id=none)
  (oA:∀t n,t≠zx->g.rows t n=none->g'.rows t n=none)
  (hb:∀id b,id≠zx->own b=some (.m id)->aD b=own b/\w'.heap[b]?=w.heap[b]?/\∀o,g'.im b o=g.im b o)
  (tm:tR g' aD LC w' zx FH) (cC:∀b o x,g'.im b o=some x->w'.cell? ⟨b,o,none⟩=some x):
  bc g' aD LC {ε:=mem.ε.set zx FH,η:=t} w':= {
 jx id b aY:=by
  simp only[nq];cases hx:g.mb id with
  |none=>rw[DB id hx]at aY;cases aY
  |some c=>exact h.jx id c hx
 nO t n x hx:=by
  simp only[nq];by_cases ht:t=zx
  ·subst ht;exact h0
  ·cases hy:g.rows t n with
   |none=>rw[oA t n ht hy]at hx;cases hx
   |some y=>exact h.nO t n y hy
 blk id blk hid:=by
  simp only[List.getElem?_set]at hid;by_cases hi:zx=id
  ·subst hi;rw[if_pos rfl,if_pos h0]at hid;cases hid;exact tm
  ·rw[if_neg hi]at hid;exact(h.blk id blk hid).bf hg (fun b=>hb id b (Ne.symm hi)) (fun n=>oA id n (Ne.symm hi)) (DB id)
 im:=cC}
theorem P6(hm:bc g own LC mem w)(hl:cz g lb own loc w)(ho:bT base own w){p:AV}{x:Value}{cs:List AV}{vs:List Value}(hp:VR g lb p x)
  (cO:PW (VR g lb) cs vs) (h1:∀v∈vs,v.oneCell'=true) {u:kL} {m':Mem} (hr:wr loc mem p cs=some (u,m')):
  ∃(b off:Nat) (a:Array Value) (e:TypeId),x= .pointer (some ⟨b,off,none⟩)/\w.heap[b]?=some (.cells a e (0,0))/\off+vs.length<=a.size∧
   ib base LC g lb own loc w .undef u m' undef (w.setRow b (arr a off vs)):=by
 cases p with
 |aj d v off=>
  cases hp with
  |aj _ _ _ _ b hb=>
  simp only[wr]at hr
  split at hr
  ·rename_i v' l hd;split at hr
   ·rename_i hc;obtain⟨rfl,hle⟩:=hc;simp only[bh,aA]at hr;obtain⟨rfl,rfl⟩:=hr;obtain⟨b',aY,oX⟩:=hl.cells d _ l hd;rw[hb]at aY;cases aY;obtain⟨a,e,ha,aL,tm⟩:=oX.store cO h1 hle;have dx:=oX.1;refine⟨b,off,a,e,rfl,ha,aL,g,lb,own,.setRow g w _ dx,fun _ _ _ h=>h,.undef _,hm.setRow_other _ (fun id=>by rw[dx];simp) oX.2.1,?_,ho.setRow _ _⟩;refine⟨fun d' i l' kD=>?_,fun d' i s pos kD=>?_,fun d' i b' aY=>?_⟩
    ·simp only[nQ]at kD;split at kD
     ·rename_i iq;subst iq;cases kD;exact⟨b,hb,tm⟩
     ·rename_i iq;obtain⟨b2,k1,k2⟩:=hl.cells d' i l' kD;have φ:b2≠b:=by rintro rfl;have:=k2.1;rw[dx]at this;cases this;exact iq rfl
      exact⟨b2,k1,k2.bf g.eS (fun _ _ _ h=>h) rfl (Go.setRow_other w b b2 _ φ) fun _=>rfl⟩
    ·simp only[nQ]at kD;split at kD
     ·cases kD
     ·rename_i iq;obtain⟨b2,k1,k2,k3,bs,k4,k5⟩:=hl.iter d' i s pos kD;have φ:b2≠b:=by rintro rfl;rw[dx]at k2;cases k2;exact iq rfl
      exact⟨b2,k1,k2,k3,bs,(Go.setRow_other w b b2 _ φ).trans k4,k5⟩
    ·obtain⟨v2,KD,k1,k2⟩:=hl.wu d' i b' aY;by_cases iq:d=d'
     ·subst iq;rw[hd]at k1;cases k1;exact⟨_,.cells (dk l off cs),by simp[nQ],k2⟩
     ·exact⟨v2,KD,by simp[nQ,iq,k1],k2⟩
   ·cases hr
  ·cases hr
 |μ id off=>
  cases hp with
  |μ _ _ _ b hb=>
  simp only[wr]at hr
  split at hr
  ·rename_i l hd;split at hr
   ·rename_i hle;simp only[bh,aA]at hr;obtain⟨rfl,rfl⟩:=hr;obtain⟨b',aY,oX⟩:=hm.blk id _ hd;rw[hb]at aY;cases aY;have ac2:PW (VR g bV) (cs.map mem.ν) vs:=cO.map _ fun _ _ h=>I_ hm h;obtain⟨a,e,ha,aL,tm⟩:=oX.store ac2 h1 (by simpa using hle);have dx:=oX.1;refine⟨b,off,a,e,rfl,ha,aL,g,lb,own,.setRow g w _ dx,fun _ _ _ h=>h,.undef _,?_,hl.setRow_other _ (fun d=>by rw[dx];simp),ho.setRow _ _⟩;have hid:id<mem.ε.length:=hm.jx id b hb;refine hm.Ff hid g.eS (fun _ h=>h) (fun _ _ _ h=>h) (fun mW b' φ aY=>⟨rfl,Go.setRow_other w b b' _ ?_,fun _=>rfl⟩) ⟨b,hb,tm⟩ (fun b' o x hx=>?_)
    ·rintro rfl;rw[dx]at aY;cases aY;exact φ rfl
    ·have φ:b'≠b:=by rintro rfl;rw[oX.2.1]at hx;cases hx
     rw[qC (Go.setRow_other w b b' _ φ)];exact hm.im _ _ _ hx
   ·cases hr
  ·cases hr
 |_=>simp[wr]at hr
end
def FR(g:Gh)(lb:LB)(sz:Nat)(l:List AV)(vs:List Value):Prop:=
 vs.length=l.length*sz/\(∀e∈l,e.cells.length=sz)/\(∀v∈vs,v.oneCell'=true)∧
  ∀i (h:i<l.length) j (hj:j<l[i].cells.length) (h':i*sz+j<vs.length),VR g lb l[i].cells[j] vs[i*sz+j]
theorem Ej{i j n sz:Nat}(hi:i<n)(hj:j<sz):i*sz+j<n*sz:=by have h1:(i+1)*sz<=n*sz:=mD _ hi;rw[kK]at h1;omega
section
variable{base:Nat}{LC:eY}{g g':Gh}{lb lb':LB}{own aD:OW}{loc:Nat->Option (Nat×θ)}{mem:Mem}{w w':World}
theorem FR.nil(sz:Nat):FR g lb sz [] []:=⟨by simp,by simp,by simp,by simp⟩
theorem FR.append{sz:Nat}{l m:List AV}{vs us:List Value}(h:FR g lb sz l vs)(k:FR g lb sz m us):FR g lb sz (l++m) (vs++us):=by
 refine⟨by simp[h.1,k.1,kK],fun e he=>?_,fun v hv=>?_,fun i hi j hj o7=>?_⟩
 ·rcases dT.1 he with he|he
  ·exact h.2.1 e he
  ·exact k.2.1 e he
 ·rcases dT.1 hv with hv|hv
  ·exact h.2.2.1 v hv
  ·exact k.2.2.1 v hv
 ·rcases da i l.length with ψ|dD
  ·have e1:(l++m)[i]=l[i]:=ye ψ;have dL:j<l[i].cells.length:=by rw[<-e1];exact hj
   have aL:l[i].cells.length=sz:=h.2.1 _ (c_ ψ);have eQ:i*sz+j<vs.length:=by rw[h.1];exact Ej ψ (by omega)
   rw[ye eQ];have:=h.2.2.2 i ψ j dL eQ;simpa only[e1]using this
  ·have e1:(l++m)[i]=m[i-l.length]'(by simp at hi;omega):=yf dD;have dL:j<(m[i-l.length]'(by simp at hi;omega)).cells.length:=by rw[<-e1];exact hj
   have hmul:i*sz=l.length*sz+(i-l.length)*sz:=by rw[<-kK];congr 1;omega
   have za:vs.length<=i*sz+j:=by rw[h.1,hmul];omega
   have Nd:i*sz+j-vs.length=(i-l.length)*sz+j:=by rw[h.1,hmul];omega
   have eQ:(i-l.length)*sz+j<us.length:=by
    have:i*sz+j<vs.length+us.length:=by simpa using o7
    omega
   rw[yf za];have:=k.2.2.2 (i-l.length) (by simp at hi;omega) j dL eQ;simp only[Nd,e1];exact this
theorem FR.mono{sz:Nat}{l:List AV}{vs:List Value}(h:FR g lb sz l vs)(hg:g.sub g')(hl:∀d i b,lb d i=some b->lb' d i=some b):FR g' lb' sz l vs:=
 ⟨h.1,h.2.1,h.2.2.1,fun i hi j hj o7=>(h.2.2.2 i hi j hj o7).mono hg hl⟩
theorem FR.ν{sz:Nat}{l:List AV}{vs:List Value}(hm:bc g own LC mem w)(h:FR g lb sz l vs):FR g bV sz (l.map mem.ν) vs:=by
 have hc:∀v:AV,(mem.ν v).cells=v.cells.map mem.ν:=fun v=>FY v;refine⟨by simp[h.1],fun e he=>?_,h.2.2.1,fun i hi j hj o7=>?_⟩
 ·obtain⟨e',qJ,rfl⟩:=eP.1 he;rw[hc,cg];exact h.2.1 e' qJ
 ·have ae:i<l.length:=by simpa using hi
  have dL:j<l[i].cells.length:=by simpa[hc]using hj
  have:=I_ hm (h.2.2.2 i ae j dL o7);simpa[hc]using this
theorem VR.flat{c:ρ}{l:List AV}{x:Value}{sz:Nat}(h:VR g lb (.list c l) x)(aL:∀e∈l,e.cells.length=sz)(φ:l≠[]):
  ∃(b o cap:Nat) (vs:List Value),x= .slice (some ⟨b,o,none⟩) l.length cap/\l.length<=cap/\nu g l.length b o cap c/\FR g bV sz l vs∧
   ∀q v,vs[q]?=some v->g.im b (o+q)=some v:=by
 cases h with
 |iU=>exact absurd rfl φ
 |iw=>exact absurd rfl φ
 |list _ _ _ b o eT n cap xs hn dQ hc D7 cC hv=>
  subst hn
  have hs:eT=sz:=by
   cases l with
   |nil=>exact absurd rfl φ
   |cons e l=>rw[<-D7 e (by simp),aL e (by simp)]
  subst hs;have jQ:∀q,q<l.length*eT->0<eT:=fun q hq=>by
   rcases Nat.eq_zero_or_pos eT with h|h
   ·rw[h]at hq;simp at hq
   ·exact h
  have hdiv:∀q,q<l.length*eT->q/eT<l.length/\q % eT<eT/\q/eT*eT+q % eT=q:=fun q hq=>⟨Nat.div_lt_of_lt_mul (by rw[alv];exact hq),Nat.mod_lt _ (jQ q hq),by rw[alv];exact Nat.div_add_mod q eT⟩;refine⟨b,o,cap,(ry (l.length*eT)).map fun q=>xs (q/eT) (q % eT),rfl,dQ,hc,⟨by simp,aL,fun v nI=>?_,fun i hi j hj o7=>?_⟩,fun q v hq=>?_⟩
  ·obtain⟨q,hq,rfl⟩:=eP.1 nI;obtain⟨k1,k2,k3⟩:=hdiv q (Av.1 hq);exact(cC _ k1 _ k2).2
  ·simp only[ja,Kd];have dL:j<eT:=by rw[<-aL _ (c_ hi)];exact hj
   have h1:(i*eT+j)/eT=i:=by rw[alv,Nat.mul_add_div (by omega),Nat.div_eq_of_lt dL];rfl
   have h2:(i*eT+j) % eT=j:=by rw[alv,Nat.mul_add_mod,Nat.mod_eq_of_lt dL]
   rw[h1,h2];exact hv i hi j hj
  ·have ψ:q<l.length*eT:=by have:=(fB.1 hq).1;simpa using this
   obtain⟨k1,k2,k3⟩:=hdiv q ψ;simp only[lB,als ψ,qx,bh]at hq;subst hq;have:=(cC _ k1 _ k2).1;rwa[k3]at this
theorem VR.Jg{c:ρ}{l:List AV}{sz b o n cap:Nat}{vs:List Value}(h:FR g bV sz l vs)(hn:l.length=n)(dQ:n<=cap)(hc:nu g n b o cap c)
  (cC:∀q v,vs[q]?=some v->g.im b (o+q)=some v):VR g lb (.list c l) (.slice (some ⟨b,o,none⟩) n cap):=by
 subst hn;have ψ:∀i,i<l.length->∀j,j<sz->i*sz+j<vs.length:=fun i hi j hj=>by rw[h.1];exact Ej hi hj
 refine .list _ c l b o sz _ cap (fun i j=>vs.getD (i*sz+j) Go.undef) rfl dQ hc h.2.1 (fun i hi j hj=>?_) (fun i hi j hj=>?_)
 ·have hl:=ψ i hi j hj;refine⟨?_,?_⟩
  ·rw[nT,dn hl];exact cC _ _ (dn hl)
  ·rw[nT,dn hl];exact h.2.2.1 _ (c_ hl)
 ·have dL:j<sz:=by rw[<-h.2.1 _ (c_ hi)];exact hj
  have hl:=ψ i hi j dL;rw[nT,dn hl];exact h.2.2.2 i hi j hj hl
theorem FR.one{v:AV}{x:Value}{sz:Nat}(h:VR g lb v x)(hs:v.cells.length=sz)(h0:0<sz):FR g lb sz [v] x.cells.toList:=by
 obtain⟨h1,h2,h3⟩:=h.cells (by intro hn;rw[hn]at hs;simp at hs;omega);refine⟨by simp[h1,hs],by simp[hs],fun u hu=>?_,fun i hi j hj o7=>?_⟩
 ·obtain⟨i,hi,rfl⟩:=pG.1 hu;simpa using h3 i (by simpa using hi)
 ·have:i=0:=by simpa using hi
  subst this;have:=h2 j (by simpa using hj) (by simp at o7;omega);simpa using this
def Gh.row(g:Gh)(b:Nat)(vs:List Value):Gh:= {g with im:=fun b' o=>if b'=b then vs[o]? else g.im b' o}
theorem XM{b:Nat}{vs:List Value}(h:∀o,g.im b o=none):g.sub (g.row b vs):=
 ⟨fun b' o x hx=>(by
  simp only[Gh.row];rw[if_neg]
  ·exact hx
  ·rintro rfl;rw[h]at hx;cases hx),fun _ _ h=>h,fun _ _ _ h=>h⟩
theorem ajf(hm:bc g own LC mem w)(hl:cz g lb own loc w)(ho:bT base own w){l:List AV}{a:Array Value}{sz:Nat}{e:TypeId}(hf:FR g bV sz l a.toList):
  ib base LC g lb own loc w (.list .full l) none mem (.slice (some ⟨w.heap.size,0,none⟩) l.length l.length) (w.alloc (.cells a e)):=by
 have hn:=xJ hm;have dh:g.sub (g.row w.heap.size a.toList):=XM hn;have Ω:=eE.alloc g own w (.cells a e) none;have DL:∀b o,own b=some o->∀q,(g.row w.heap.size a.toList).im b q=g.im b q:=fun b o hb q=>by simp[Gh.row,zR ho hb]
 have lP:=hm.alloc ho (.cells a e) none;refine⟨g.row w.heap.size a.toList,lb,_,⟨dh,Ω.size,Ω.os,Ω.tape,Ω.output,Ω.bf,Ω.jI,fun b hb _ q=>by simp only[Gh.row];rw[if_neg (by omega)]⟩,
  fun _ _ _ h=>h,?_,?_,?_,ho.alloc _ _⟩
 ·refine VR.Jg (hf.mono dh (fun _ _ _ h=>by cases h)) rfl (bS _) rfl (fun q v hq=>?_);simp only[Gh.row,lF,if_true];exact hq
 ·refine lP.bf dh (fun _ h=>h) (fun _ _ h=>h) (fun id b hb=>⟨rfl,rfl,?_⟩) (fun b o x hx=>?_)
  ·have aY:own b=some (.m id):=by
    simp only[gP]at hb;split at hb
    ·cases hb
    ·exact hb
   exact DL b _ aY
  ·simp only[Gh.row]at hx;split at hx
   ·rename_i kC;subst kC;simp only[sN,qK];simpa using hx
   ·exact lP.im b o x hx
 ·refine(hl.alloc ho (.cells a e) none).bf dh (fun d b hb=>⟨rfl,rfl,?_⟩);have aY:own b=some (.l d):=by
   simp only[gP]at hb;split at hb
   ·cases hb
   ·exact hb
  exact DL b _ aY
end
section
variable{P:Program}{base:Nat}{LC:eY}{g g':Gh}{lb lb':LB}{own aD:OW}{loc:Nat->Option (Nat×θ)}{mem:Mem}{w w':World}
def Gh.grow(g:Gh)(t k b cap:Nat):Gh:= {g with rows:=fun t' k'=>if t'=t/\k'=k then some (b,cap)else g.rows t' k'}
theorem TM{t k b cap:Nat}(h:g.rows t k=none):g.sub (g.grow t k b cap):=
 ⟨fun _ _ _ h=>h,fun _ _ h=>h,fun t' k' x hx=>(by
  simp only[Gh.grow];rw[if_neg]
  ·exact hx
  ·rintro⟨rfl,rfl⟩;rw[h]at hx;cases hx)⟩
theorem Bg(hm:bc g own LC mem w)(hl:cz g lb own loc w)(ho:bT base own w){t n sz cap:Nat}{e:TypeId}{l:List AV}{vs:List Value}{rest:Array Value}{m':Mem}
  (hf:FR g bV sz l vs) (hn:l.length=n) (h0:0<sz) (dQ:n<=cap) (qa:rest.size=(cap-n)*sz) (oA:∀m x,g.rows t m=some x->m<n) (jA:g.mb t=none)
  (lP:(t=mem.ε.length/\m'=mem.push (.front n sz e))\/(t<mem.ε.length/\m'=mem.put t (.front n sz e) true)):
  ib base LC g lb own loc w (.list (.own t) l) none m' (.slice (some ⟨w.heap.size,0,none⟩) n cap) (w.drew.alloc (.cells (vs.toArray++rest) e)):=by
 refine ib.drew ?_;have zh:=hm.drew;have DP:=hl.drew;have DU:=ho.drew;have aL:w.heap.size=w.drew.heap.size:=rfl;rw[aL];generalize w.drew=w at*;clear hm hl ho;have qO:=xJ zh;have NV:g.rows t n=none:=by
  cases hx:g.rows t n with
  |none=>rfl
  |some x=>have:=oA n x hx;omega
 let o:=Obj.cells (vs.toArray++rest) e;let g1:=g.row w.heap.size vs;let g':=g1.grow t n w.heap.size cap;have uA:g.sub g1:=XM qO;have dh:g.sub g':=Gh.Cf uA (TM (by exact NV));have Ω:=eE.alloc g own w o (some (.m t));have Vb:∀b o',own b=some o'->∀q,g'.im b q=g.im b q:=fun b o' hb q=>by simp[g',g1,Gh.grow,Gh.row,zR DU hb]
 have hlen:vs.length=n*sz:=by rw[<-hn];exact hf.1
 have DL:∀id b,own b=some (.m id)->gP own w.heap.size (some (.m t)) b=own b/\(w.alloc o).heap[b]?=w.heap[b]?/\∀q,g'.im b q=g.im b q:=
  fun id b hb=>⟨by simp[gP,zR DU hb],um w o (DU.ge b _ hb).2,Vb b _ hb⟩
 have cC:∀b q x,g'.im b q=some x->(w.alloc o).cell? ⟨b,q,none⟩=some x:=by
  intro b q x hx;have gr:(if b=w.heap.size then vs[q]? else g.im b q)=some x:=hx;split at gr
  ·rename_i kC;subst kC;simp only[sN,o,qK];have hq:q<vs.length:=(fB.1 gr).1;rw[Array.getElem?_append_left (by simpa using hq)];simpa using gr
  ·have:=zh.im b q x gr;rw[qC (um w o (wP this))];exact this
 have gM:tR g' (gP own w.heap.size (some (.m t))) LC (w.alloc o) t (.front n sz e):=by
  refine⟨h0,w.heap.size,cap,by simp[g',Gh.grow],dQ,by simp[gP],⟨_,qK w o,?_⟩,fun q hq=>?_,fun m x hx=>?_,jA⟩
  ·simp only[Array.size_append,List.size_toArray,hlen,qa,<-kK];congr 1;omega
  ·show(if w.heap.size=w.heap.size then vs[q]? else _)=none;rw[if_pos rfl,h_ (by omega)]
  ·simp only[g',Gh.grow]at hx;split at hx
   ·rename_i h;omega
   ·exact Ax (oA m x hx)
 refine⟨g',lb,gP own w.heap.size (some (.m t)),⟨dh,Ω.size,Ω.os,Ω.tape,Ω.output,Ω.bf,Ω.jI,fun b hb _ q=>?_⟩,fun _ _ _ h=>h,?_,?_,?_,DU.alloc _ _⟩
 ·simp only[g',g1,Gh.grow,Gh.row];rw[if_neg (by omega)]
 ·refine VR.Jg (hf.mono dh (fun _ _ _ h=>by cases h)) hn dQ ⟨rfl,by simp[g',Gh.grow]⟩ (fun q v hq=>?_);show(if w.heap.size=w.heap.size then vs[0+q]? else _)=some v;rw[if_pos rfl,lF];exact hq
 ·rcases lP with⟨ht,rfl⟩|⟨ht,rfl⟩
  ·have hk:bc g own LC mem w:=zh;refine⟨fun id b hb=>?_,fun t' k x hx=>?_,fun id blk hid=>?_,cC⟩
   ·have:=zh.jx id b hb;simp only[Mem.push,cI,cD,eO];omega
   ·simp only[Mem.push,cI,cD,eO];simp only[g',g1,Gh.grow,Gh.row]at hx;split at hx
    ·omega
    ·have:=zh.nO t' k x hx;omega
   ·simp only[Mem.push]at hid;rcases da id mem.ε.length with ψ|dD
    ·rw[ek ψ]at hid;refine(zh.blk id blk hid).bf dh (DL id) (fun k hk=>?_) (fun h=>h);simp only[g',g1,Gh.grow,Gh.row];rw[if_neg (by omega)];exact hk
    ·rw[tV dD]at hid;have:id=mem.ε.length:=by
      rcases da 0 (id-mem.ε.length)with h0|h0
      ·rw[h_ (by simp;omega)]at hid;cases hid
      ·omega
     subst this;simp at hid;subst hid;rw[<-ht];exact gM
  ·refine zh.Ff ht dh (fun _ h=>h) (fun t' k φ hk=>?_) (fun id b _ hb=>DL id b hb) gM cC;simp only[g',g1,Gh.grow,Gh.row];rw[if_neg (by omega)];exact hk
 ·exact(DP.alloc DU o (some (.m t))).bf dh fun d b hb=>⟨rfl,rfl,by
   have aY:own b=some (.l d):=by
    simp only[gP]at hb;split at hb
    ·cases hb
    ·exact hb
   exact Vb b _ aY⟩
theorem XK(hm:bc g own LC mem w)(hl:cz g lb own loc w)(ho:bT base own w){t n k sz cap b:Nat}{e:TypeId}{l m:List AV}{vs us:List Value}{cur:Array Value}
  (hf:FR g bV sz l vs) (hk:FR g bV sz m us) (hn:l.length=n) (ux:m.length=k) (o8:0<k) (uz:n+k<=cap) (gM:mem.ε[t]?=some (.front n sz e)) (gH:g.rows t n=some (b,cap))
  (Nf:∀q v,vs[q]?=some v->g.im b q=some v) (vB:w.heap[b]?=some (.cells cur e (0,0))):
  n*sz+us.length<=cur.size/\ib base LC g lb own loc w (.list (.own t) (l++m)) none (mem.put t (.front (n+k) sz e) true) (.slice (some ⟨b,0,none⟩) (n+k) cap) (w.setRow b (arr cur (n*sz) us)):=by
 obtain⟨h0,b',gq,h1,h2,h3,⟨a,h4,h5⟩,h6,h7,h8⟩:=hm.blk t _ gM;rw[gH]at h1;cases h1;rw[vB]at h4;cases h4;have hul:us.length=k*sz:=by rw[<-ux];exact hk.1
 have Iw:vs.length=n*sz:=by rw[<-hn];exact hf.1
 have tc:n*sz+us.length<=cur.size:=by rw[hul,h5,<-kK];exact mD _ uz
 refine⟨tc,?_⟩;have D_:t<mem.ε.length:=(fB.1 gM).1;have NV:g.rows t (n+k)=none:=by
  cases hx:g.rows t (n+k)with
  |none=>rfl
  |some x=>have:=h7 _ x hx;omega
 let g1:Gh:= {g with im:=fun b' q=>if b'=b then(if n*sz<=q/\q<n*sz+us.length then us[q-n*sz]? else g.im b q)else g.im b' q};let g':=g1.grow t (n+k) b cap;have uA:g.sub g1:=⟨fun b' q x hx=>(by
  simp only[g1]
  split
  ·rename_i kC;subst kC;rw[if_neg]
   ·exact hx
   ·rintro⟨hq,_⟩;rw[h6 q hq]at hx;cases hx
  ·exact hx),fun _ _ h=>h,fun _ _ _ h=>h⟩
 have dh:g.sub g':=Gh.Cf uA (TM (by exact NV));have Ω:=eE.setRow g w (arr cur (n*sz) us) h3;have jB:∀b',b'≠b->∀q,g'.im b' q=g.im b' q:=fun b' φ q=>by simp[g',g1,Gh.grow,φ]
 have ab1:(arr cur (n*sz) us).size=cur.size:=by simp[arr];omega
 have cC:∀b' q x,g'.im b' q=some x->(w.setRow b (arr cur (n*sz) us)).cell? ⟨b',q,none⟩=some x:=by
  intro b' q x hx;by_cases kC:b'=b
  ·subst kC;simp only[sN,setRow_heap w b' cur _ e _ vB];have gr:(if n*sz<=q/\q<n*sz+us.length then us[q-n*sz]? else g.im b' q)=some x:=by simpa[g',g1,Gh.grow]using hx
   simp only[alw,jV,if_false];split at gr
   ·rename_i hq;have:(arr cur (n*sz) us)[q]?=us[q-n*sz]?:=by
     have U3:min (n*sz) cur.size=n*sz:=by omega
     simp only[arr,Kc];rw[bO,tV (by simp;omega),ek (by simp;omega)];simp[U3]
    rw[this];exact gr
   ·rename_i hq;have vP:q<n*sz:=by
     rcases da q (n*sz)with h|h
     ·exact h
     ·rw[h6 q h]at gr;cases gr
    have hold:=hm.im _ _ _ gr;simp only[sN,vB,alw,jV,if_false]at hold;have:(arr cur (n*sz) us)[q]?=cur[q]?:=by simp only[arr,Kc];rw[bO,ek (by simp;omega)];simp[vP]
    rw[this];exact hold
  ·rw[jB b' kC]at hx;rw[qC (Go.setRow_other w b b' _ kC)];exact hm.im _ _ _ hx
 refine⟨g',lb,own,⟨dh,Ω.size,Ω.os,Ω.tape,Ω.output,Ω.bf,Ω.jI,fun b' _ Bl q=>jB b' (by rintro rfl;rw[h3]at Bl;cases Bl) q⟩,fun _ _ _ h=>h,?_,?_,?_,ho.setRow _ _⟩
 ·refine VR.Jg (sz:=sz) ((hf.append hk).mono dh (fun _ _ _ h=>by cases h)) (by simp[hn,ux]) uz ⟨rfl,by simp[g',Gh.grow]⟩ (fun q v hq=>?_);rw[lF];show(if b=b then _ else _)=some v;rw[if_pos rfl];rcases da q vs.length with ψ|dD
  ·rw[ek ψ]at hq;rw[if_neg (by omega)];exact Nf q v hq
  ·rw[tV dD]at hq;have xy:q-vs.length<us.length:=(fB.1 hq).1;rw[if_pos (by omega),<-Iw];exact hq
 ·refine hm.Ff D_ dh (fun _ h=>h) (fun t' k' φ df=>?_) (fun id b' φ aY=>?_) ?_ cC
  ·simp only[g',g1,Gh.grow];rw[if_neg (by omega)];exact df
  ·have rS:b'≠b:=by rintro rfl;rw[h3]at aY;cases aY;exact φ rfl
   exact⟨rfl,Go.setRow_other w b b' _ rS,jB b' rS⟩
  ·refine⟨h0,b,cap,by simp[g',Gh.grow],uz,h3,⟨_,setRow_heap w b cur _ e _ vB,by rw[ab1];exact h5⟩,fun q hq=>?_,fun m' x hx=>?_,h8⟩
   ·show(if b=b then _ else _)=none;rw[kK]at hq;rw[if_pos rfl,if_neg (by omega)];exact h6 q (by omega)
   ·simp only[g',g1,Gh.grow]at hx;split at hx
    ·rename_i h;omega
    ·have:=h7 m' x hx;omega
 ·exact hl.bf dh fun d b' aY=>by
   have rS:b'≠b:=by rintro rfl;rw[h3]at aY;cases aY
   exact⟨rfl,Go.setRow_other w b b' _ rS,jB b' rS⟩
theorem JF{ag:Bool}{sz:Nat}{v:AV}(h:shaped ag sz v=true):v.cells.length=sz:=by cases v<;>simp_all [shaped,AV.cells,AV.one]
theorem Qy(hm:bc g own LC mem w)(hl:cz g lb own loc w)(ho:bT base own w){x y:AV}{xv yv:Value}(hx:VR g lb x xv)(hy:VR g lb y yv)
  {t ty e:TypeId} {i:TypeInfo} {z:Value} (ht:P.underlying t=some (.slice e)) (hi:P.info? e=some i) (hz:i.zero=some z) (kT:z.cells.size=i.size)
  {ag:Bool} {v:AV} {m':Mem} (hr:gC mem ag i.size i.bytes e x y=some (v,m')):
  ∃(xr:Value) (w':World),(Builtin.append_ #[t,t] ty #[xv,yv]).run P w= .ok xr w'/\ib base LC g lb own loc w v none m' xr w':=by
 unfold gC at hr;split at hr
 ·rename_i c l c' m;split at hr
  ·rename_i ji;simp only[ej,dO,decide_eq_true_eq]at ji;obtain⟨⟨⟨⟨mU,ov⟩,h0⟩,vw⟩,hlen⟩:=ji;have NF:∀e∈m,e.cells.length=i.size:=fun e he=>JF (mU e he);have UY:∀e∈l,e.cells.length=i.size:=fun e he=>JF (ov e he);by_cases rZ:m=[]
   ·subst rZ;have hv:v= .list c l/\m'=mem:=by cases c<;>simp only[bh,aA]at hr<;>exact⟨hr.1.symm,hr.2.symm⟩
    obtain⟨rfl,rfl⟩:=hv;refine⟨xv,w,?_,ib.pure hm hl ho hx⟩;have Od:∃a cp,yv= .slice a 0 cp:=by
     cases hy with
     |iU=>exact⟨_,_,rfl⟩
     |iw=>exact⟨_,_,rfl⟩
     |list _ _ _ b o sz n cap xs hn=>simp at hn;subst hn;exact⟨_,_,rfl⟩
    obtain⟨a,cp,rfl⟩:=Od;have Ee:∃a n cp,xv= .slice a n cp/\n<=cp:=by
     cases hx with
     |iU=>exact⟨_,_,_,rfl,bS _⟩
     |iw=>exact⟨_,_,_,rfl,tY _⟩
     |list _ _ _ b o sz n cap xs hn dQ=>exact⟨_,_,_,rfl,dQ⟩
    obtain⟨a',n,dU,rfl,hle⟩:=Ee;cases a<;>cases a'<;>simp[Builtin.append_,run_underlying ht,sizeOf,typeInfo,hi,Builtin.lenOf,Builtin.firstCells,loadCells,loadCellsFrom,hle,storeCells]
   ·have By:0<m.length:=by cases m with|nil=>exact absurd rfl rZ|cons=>simp
    obtain⟨yb,yo,tQ,us,rfl,-,-,lr,Ni⟩:=hy.flat NF rZ;have tn:∀j u,us[j]?=some u->w.cell? ((⟨yb,yo,none⟩:Addr).add j)=some u:=fun j u hj=>by rw[Addr.add_mid];exact hm.im _ _ _ (Ni j u hj)
    have xn:=lr.ν hm;have vI:((l.length+m.length:Nat):Int)<=9223372036854775807:=by omega
    cases c with
    |any=>
     cases m with
     |nil=>exact absurd rfl rZ
     |cons=>cases hr
    |full=>
     have iT:v= .list (.own mem.ε.length) (l++m.map mem.ν)/\m'=mem.push (.front (l.length+m.length) i.size e):=by
      cases m with
      |nil=>exact absurd rfl rZ
      |cons=>simp only[bh,aA]at hr;exact⟨hr.1.symm,hr.2.symm⟩
     obtain⟨rfl,rfl⟩:=iT;have oA:∀k x,g.rows mem.ε.length k=some x->k<l.length+m.length:=fun k x hx=>absurd (hm.nO _ _ _ hx) (alu _);have jA:g.mb mem.ε.length=none:=by
      cases hx:g.mb mem.ε.length with
      |none=>rfl
      |some b=>exact absurd (hm.jx _ _ hx) (alu _)
     by_cases hle:l=[]
     ·subst hle;have Ee:(xv= .slice none 0 0)\/(∃ad,xv= .slice (some ad) 0 0):=by
       cases hx with
       |iw _ _ ad cap hc=>
        rcases hc with hc|⟨_,hc⟩
        ·cases hc
        ·exact .inr ⟨ad,by rw[hc]⟩
       |list _ _ _ b o sz n cap xs hn dQ hc=>simp at hn;subst hn;exact .inr ⟨⟨b,o,none⟩,by simp only[nu]at hc;subst hc;rfl⟩
      simp only[eO,lF,bE]at vw vI oA⊢;rcases Ee with rfl|⟨ad,rfl⟩
      ·refine⟨_,_,run_append_nil (P:=P) w t ty e i z ht hi hz ⟨yb,yo,none⟩ m.length tQ us lr.1 tn By vI (by omega),?_⟩;have:=Bg (m':=mem.push (.front m.length i.size e)) hm hl ho (rest:=Builtin.zeroCells z.cells (grownCap w m.length 0 e-m.length)) xn (by simp) h0 (grownCap_ge w m.length 0 e) (by rw[size_zeroCells,kT]) oA jA (.inl ⟨rfl,rfl⟩);exact this
      ·have hg:=run_append_grow (P:=P) w t ty e i z ht hi hz ad 0 0 [] (by simp) (by simp) ⟨yb,yo,none⟩ m.length tQ us lr.1 tn (by omega) (by omega) (growslice_fits (by omega) (by simpa using vw));refine⟨_,_,hg,?_⟩;simp only[lF];have:=Bg (m':=mem.push (.front m.length i.size e)) hm hl ho (rest:=Builtin.zeroCells z.cells (grownCap w m.length 0 e-m.length)) xn (by simp) h0 (grownCap_ge w m.length 0 e) (by rw[size_zeroCells,kT]) oA jA (.inl ⟨rfl,rfl⟩);simpa using this
     ·obtain⟨b,o,cap,vs,rfl,-,hc,mT,gN⟩:=hx.flat UY hle;simp only[nu]at hc;subst hc;have holds:∀j u,vs[j]?=some u->w.cell? ((⟨b,o,none⟩:Addr).add j)=some u:=fun j u hj=>by rw[Addr.add_mid];exact hm.im _ _ _ (gN j u hj)
      have hg:=run_append_grow (P:=P) w t ty e i z ht hi hz ⟨b,o,none⟩ l.length l.length vs mT.1 holds ⟨yb,yo,none⟩ m.length tQ us lr.1 tn (by omega) vI (growslice_fits (by omega) vw);refine⟨_,_,hg,?_⟩;have:=Bg (m':=mem.push (.front (l.length+m.length) i.size e)) hm hl ho (rest:=Builtin.zeroCells z.cells (grownCap w (l.length+m.length) l.length e-(l.length+m.length))) (mT.append xn) (by simp) h0 (grownCap_ge w _ _ e) (by rw[size_zeroCells,kT]) oA jA (.inl ⟨rfl,rfl⟩);simpa using this
    |nil=>
     have iT:v= .list (.own mem.ε.length) (l++m.map mem.ν)/\m'=mem.push (.front (l.length+m.length) i.size e):=by
      cases m with
      |nil=>exact absurd rfl rZ
      |cons=>simp only[bh,aA]at hr;exact⟨hr.1.symm,hr.2.symm⟩
     obtain⟨rfl,rfl⟩:=iT;have oA:∀k x,g.rows mem.ε.length k=some x->k<l.length+m.length:=fun k x hx=>absurd (hm.nO _ _ _ hx) (alu _);have jA:g.mb mem.ε.length=none:=by
      cases hx:g.mb mem.ε.length with
      |none=>rfl
      |some b=>exact absurd (hm.jx _ _ hx) (alu _)
     obtain⟨rfl,rfl⟩:l=[]/\xv= .slice none 0 0:=by
      cases hx with
      |iU=>exact⟨rfl,rfl⟩
      |iw _ _ a cap hc=>rcases hc with hc|⟨hc,_⟩<;>cases hc
      |list _ _ _ b o sz n cap xs hn dQ hc=>exact hc.elim
     simp only[eO,lF,bE]at vw vI oA⊢;refine⟨_,_,run_append_nil (P:=P) w t ty e i z ht hi hz ⟨yb,yo,none⟩ m.length tQ us lr.1 tn By vI (by omega),?_⟩;exact Bg (m':=mem.push (.front m.length i.size e)) hm hl ho (rest:=Builtin.zeroCells z.cells (grownCap w m.length 0 e-m.length)) xn (by simp) h0 (grownCap_ge w m.length 0 e) (by rw[size_zeroCells,kT]) oA jA (.inl ⟨rfl,rfl⟩)
    |own tg=>
     have iT:mem.ε[tg]?=some (.front l.length i.size e)/\v= .list (.own tg) (l++m.map mem.ν)/\m'=mem.put tg (.front (l.length+m.length) i.size e) true:=by
      cases m with
      |nil=>exact absurd rfl rZ
      |cons a m=>
       simp only[]at hr
       split at hr
       ·rename_i gM;split at hr
        ·rename_i hc;obtain⟨rfl,rfl,rfl⟩:=hc;simp only[bh,aA]at hr;exact⟨gM,hr.1.symm,hr.2.symm⟩
        ·cases hr
       ·cases hr
     obtain⟨gM,rfl,rfl⟩:=iT;have D_:tg<mem.ε.length:=(fB.1 gM).1;obtain⟨-,b1,akW,qT,ab7,alh,⟨cur,vB,UB⟩,ala,Nv,jA⟩:=hm.blk tg _ gM;by_cases hle:l=[]
     ·subst hle;cases hx with
      |iw _ _ a cap hc=>rcases hc with hc|⟨hc,_⟩<;>cases hc
      |list _ _ _ b o sz n cap xs hn dQ hc=>
       simp at hn;subst hn
       obtain⟨rfl,gH⟩:=hc;simp only[eO]at qT;rw[gH]at qT;simp only[bh,aA]at qT;obtain⟨rfl,rfl⟩:=qT;simp only[eO,lF,bE]at vw vI Nv gM ab7⊢;by_cases uz:m.length<=cap
       ·obtain⟨tc,pd⟩:=XK hm hl ho (FR.nil i.size) xn (by simp) (by simp) By (by omega) gM gH (by simp) vB;simp only[alx,lF,bE]at tc pd;have hg:=run_append_room (P:=P) w t ty e i ht hi b 0 cap cur vB ⟨yb,yo,none⟩ m.length tQ us lr.1 tn lr.2.2.1 (by omega) (by omega);simp only[lF,alx]at hg;have he:arr cur 0 us=(List.take 0 cur.toList++us++List.drop us.length cur.toList).toArray:=by simp[arr]
        rw[<-he]at hg;exact⟨_,_,hg,pd⟩
       ·have hg:=run_append_grow (P:=P) w t ty e i z ht hi hz ⟨b,0,none⟩ 0 cap [] (by simp) (by simp) ⟨yb,yo,none⟩ m.length tQ us lr.1 tn (by omega) (by omega) (growslice_fits (by omega) (by simpa using vw));refine⟨_,_,hg,?_⟩;simp only[lF];have:=Bg (m':=mem.put tg (.front m.length i.size e) true) hm hl ho (rest:=Builtin.zeroCells z.cells (grownCap w m.length cap e-m.length)) xn (by simp) h0 (grownCap_ge w m.length cap e) (by rw[size_zeroCells,kT]) (fun k x hk=>by have:=Nv k x hk;omega) jA (.inr ⟨D_,rfl⟩);simpa using this
     ·obtain⟨b,o,cap,vs,rfl,-,hc,mT,gN⟩:=hx.flat UY hle;obtain⟨rfl,gH⟩:=hc;rw[gH]at qT;simp only[bh,aA]at qT;obtain⟨rfl,rfl⟩:=qT;by_cases uz:l.length+m.length<=cap
      ·obtain⟨tc,pd⟩:=XK hm hl ho mT xn rfl (by simp) By uz gM gH (fun q v hq=>by simpa using gN q v hq) vB;have hg:=run_append_room (P:=P) w t ty e i ht hi b l.length cap cur vB ⟨yb,yo,none⟩ m.length tQ us lr.1 tn lr.2.2.1 uz tc;exact⟨_,_,hg,pd⟩
      ·have holds:∀j u,vs[j]?=some u->w.cell? ((⟨b,0,none⟩:Addr).add j)=some u:=fun j u hj=>by rw[Addr.add_mid];exact hm.im _ _ _ (gN j u hj)
       have hg:=run_append_grow (P:=P) w t ty e i z ht hi hz ⟨b,0,none⟩ l.length cap vs mT.1 holds ⟨yb,yo,none⟩ m.length tQ us lr.1 tn (by omega) vI (growslice_fits (by omega) vw);refine⟨_,_,hg,?_⟩;have:=Bg (m':=mem.put tg (.front (l.length+m.length) i.size e) true) hm hl ho (rest:=Builtin.zeroCells z.cells (grownCap w (l.length+m.length) cap e-(l.length+m.length))) (mT.append xn) (by simp) h0 (grownCap_ge w _ _ e) (by rw[size_zeroCells,kT]) (fun k x hk=>by have:=Nv k x hk;omega) jA (.inr ⟨D_,rfl⟩);simpa using this
  ·cases hr
 ·cases hr
end
section
variable{P:Program}{g:Gh}{lb:LB}{w:World}
theorem WC{a b:List UInt8}(h:a.map UInt8.toNat=b.map UInt8.toNat):a=b:=by
 induction a generalizing b with
 |nil=>cases b with
  |nil=>rfl
  |cons=>simp at h
 |cons x a ih=>cases b with
  |nil=>simp at h
  |cons y b=>
   simp only[az,List.cons.injEq]at h
   rw[UInt8.toNat_inj.1 h.1,ih h.2]
theorem ags(a b:List UInt8):xQ (a.map UInt8.toNat) (b.map UInt8.toNat)=Op.bytesLess a b:=by
 induction a generalizing b with
 |nil=>cases b<;>rfl
 |cons x a ih=>
  cases b with
  |nil=>rfl
  |cons y b=>
   simp only[az,xQ,Op.bytesLess,ih]
   congr 1;congr 1;by_cases h:x=y
   ·subst h;simp
   ·have:x.toNat≠y.toNat:=fun e=>h (UInt8.toNat_inj.1 e);simp[h,this]
theorem PX{a b:ByteArray}{s t:List Nat}(ha:a.data.toList.map UInt8.toNat=s)(hb:b.data.toList.map UInt8.toNat=t):(a.toList==b.toList)=decide (s=t):=by
 rw[ByteArray.toList_eq,ByteArray.toList_eq];subst ha hb;by_cases h:a.data.toList=b.data.toList
 ·rw[h];simp
 ·have h2:a.data.toList.map UInt8.toNat≠b.data.toList.map UInt8.toNat:=fun e=>h (WC e);rw[decide_eq_false h2];exact beq_eq_false_iff_ne.2 h
theorem E9{a:ByteArray}{s:List Nat}(ha:a.data.toList.map UInt8.toNat=s):a.size=s.length:=by subst ha;simp
theorem YU{op:BinOp}{k:IntKind}{a b:Int}{v:AV}(h:iM op k a b=some v):
  ∃x,(match op with
   | .add| .sub| .mul=>Op.intArith op k a b
   | .quo| .rem=>Op.intDiv op k a b
   | .and| .or| .xor| .andNot=>Op.intBits op k a b
   |_=>Op.intCmp op a b).run P w= .ok x w/\VR g lb v x:=by
 cases op<;>simp only[iM]at h
 case quo=>
  split at h
  ·cases h
  ·rename_i hb;cases h;exact⟨_,by simp[Op.intDiv,hb],.int _ _ _⟩
 case rem=>
  split at h
  ·cases h
  ·rename_i hb;cases h;exact⟨_,by simp[Op.intDiv,hb],.int _ _ _⟩
 all_goals first|(cases h;done)|(cases h;first|exact⟨_,rfl,.int _ _ _⟩|exact⟨_,rfl,.bool _ _⟩)
theorem YV{op:BinOp}{a b:ByteArray}{s t:List Nat}{v:AV}(ha:a.data.toList.map UInt8.toNat=s)(hb:b.data.toList.map UInt8.toNat=t)(h:cE op s t=some v):
  ∃x,(Op.stringOp op a b).run P w= .ok x w/\VR g lb v x:=by
 have he:=PX ha hb;have hl:xQ s t=Op.bytesLess a.toList b.toList:=by rw[ByteArray.toList_eq,ByteArray.toList_eq,<-ags,ha,hb]
 have hs:(a.size+b.size:Nat)=s.length+t.length:=by rw[E9 ha,E9 hb]
 cases op<;>simp only[cE]at h
 case add=>
  split at h
  ·cases h
  ·rename_i hc;cases h;rw[<-hs]at hc;refine⟨.string (a++b),by simp only[Op.stringOp,if_neg hc];rfl,.str _ _ _ ?_⟩;rw[<-ha,<-hb];simp
 all_goals first|(cases h;done)|(cases h;exact⟨_,by simp only[Op.stringOp,he,hl];rfl,.bool _ _⟩)
theorem run_equalIn_bool(d:Nat){t:TypeId}(hu:P.underlying t=some .bool)(a b:Bool):(Op.equalIn (d+1) t (.bool a) (.bool b)).run P w= .ok (a==b) w:=by simp only[Op.equalIn,Sem.run_bind,run_underlying hu,Result.andThen_ok];rfl
theorem YT{op:BinOp}{t:TypeId}{x y:AV}{xv yv:Value}{v:AV}(hx:VR g lb x xv)(hy:VR g lb y yv)(h:iE op x y=some v):
  ∃r,(binOp op t xv yv).run P w= .ok r w/\VR g lb v r:=by
 unfold iE at h;split at h
 ·rename_i k a k' b;cases hx;cases hy;cases op
  case shl=>
   dsimp only at h
   split at h
   ·cases h
   ·rename_i hc;cases h;exact⟨_,by simp[binOp,Op.shift,hc],.int _ _ _⟩
  case shr=>
   dsimp only at h
   split at h
   ·cases h
   ·rename_i hc;cases h;exact⟨_,by simp[binOp,Op.shift,hc],.int _ _ _⟩
  all_goals
   dsimp only at h;split at h
   ·rename_i hk;subst hk;obtain⟨r,h1,h2⟩:=YU (P:=P) (w:=w) (g:=g) (lb:=lb) h;exact⟨r,by simpa[binOp]using h1,h2⟩
   ·cases h
 ·cases hx;cases hy;rename_i ha _ aY;obtain⟨r,h1,h2⟩:=YV (P:=P) (w:=w) (g:=g) (lb:=lb) ha aY h;exact⟨r,by cases op<;>simpa[binOp]using h1,h2⟩
 ·cases h
theorem YW{op:UnOp}{x:AV}{xv:Value}{v:AV}(hx:VR g lb x xv)(h:jd op x=some v):∃r,(Op.unary op xv).run P w= .ok r w/\VR g lb v r:=by
 unfold jd at h;split at h
 ·cases hx;cases h;exact⟨_,rfl,.int _ _ _⟩
 ·cases hx;cases h;exact⟨_,rfl,.bool _ _⟩
 ·cases h
theorem W4{p:AV}{x:Value}{off:Nat}{v:AV}(hx:VR g lb p x)(h:iX p off=some v):∃a:Addr,x= .pointer (some a)/\VR g lb v (.pointer (some (a.add off))):=by
 unfold iX at h;split at h
 ·cases hx;rename_i b hb;cases h;exact⟨_,rfl,by rw[Addr.add_mid];exact .aj _ _ _ _ _ hb⟩
 ·cases hx;rename_i b hb;cases h;exact⟨_,rfl,by rw[Addr.add_mid];exact .μ _ _ _ _ hb⟩
 ·split at h
  ·rename_i l hle;cases hx;rename_i b o xs cC hv;cases h;refine⟨_,rfl,?_⟩;rw[Addr.add_mid];refine .ref _ _ b (o+off) (fun i=>xs (off+i)) (fun i hi=>?_) (fun i hi=>?_)
   ·have:=cC (off+i) (by simp at hi;omega);rwa[<-rz]at this
   ·simp only[yg];exact hv (off+i) (by simp at hi;omega)
  ·cases h
 ·cases h
theorem Kr{ag:Bool}{l:List AV}{a:Array Value}{v:AV}(hp:PW (VR g lb) l a.toList)(h1:∀v∈a.toList,v.oneCell'=true)(h:gT ag l=some v):
  (ag=true->VR g lb v (.agg a))/\(ag=false->∃x,a= #[x]/\VR g lb v x):=by
 have hlen:l.length=a.size:=by simpa using hp.1
 unfold gT at h;split at h
 ·rename_i lM;cases h;refine⟨fun _=> .agg _ _ _ hlen.symm (fun i hi=>h1 _ (by simp)) (fun i hi ae=>by have:=hp.2 i hi (by simpa using ae);rwa[mz]at this),fun hf=>by rw[lM]at hf;cases hf⟩
 ·rename_i lM;unfold single at h;split at h
  ·cases h;refine⟨fun hf=>absurd hf lM,fun _=>?_⟩;obtain⟨xs⟩:=a
   match xs,hlen with
   |[x],_=>exact⟨x,rfl,hp.2 0 (by simp) (by simp)⟩
  ·cases h
theorem W6{l:List AV}{a:Array Value}{t:TypeId}{off n:Nat}{ag:Bool}{v:AV}(hl:VR g lb (.agg l) (.agg a))(hle:off+n<=l.length)
  (lM:(isAgg t).run P w= .ok ag w) (aL:(sizeOf t).run P w= .ok n w) (h:gT ag ((l.drop off).take n)=some v):∃r,(part t a off).run P w= .ok r w/\VR g lb v r:=by
 cases hl with
 |agg _ _ _ hs h1 hv=>
 have pa:PW (VR g lb) l a.toList:=⟨by simpa using hs.symm,fun i hi ae=>by simpa using hv i hi (by simpa using ae)⟩
 have hp:PW (VR g lb) ((l.drop off).take n) (a.extract off (off+n)).toList:=by have:=(pa.drop off).take n;simpa[aly,Qe]using this
 have kA:∀v∈(a.extract off (off+n)).toList,v.oneCell'=true:=by
  intro v nI;have:v∈a.toList:=by rw[aly,Qe]at nI;exact tW (qt nI)
  obtain⟨i,hi,rfl⟩:=pG.1 this;simpa using h1 i (by simpa using hi)
 obtain⟨k1,k2⟩:=Kr hp kA h;cases ag with
 |true=>exact⟨_,by simp[part,lM,aL],k1 rfl⟩
 |false=>
  obtain⟨x,hx,hvx⟩:=k2 rfl
  have Vp:(a.extract off (off+n)).size=1:=by rw[hx];rfl
  have hn:n=1:=by simp at Vp;omega
  subst hn;have ma:a[off]?=some x:=by
   have h0:=congrArg (fun z:Array Value=>z[0]?) hx;have ψ:off<a.size:=by omega
   simp only[Array.getElem?_extract]at h0;rw[if_pos (by omega)]at h0;simpa using h0
  exact⟨x,by simp[part,lM,ma],hvx⟩
def NK.fits(P:Program)(t:TypeId):NK->Value->Prop
 | .ptr,v=>(∃e,P.underlying t=some (.pointer e))/\v= .pointer none
 | .slice,v=>(∃e,P.underlying t=some (.slice e))/\v= .slice none 0 0
 | .fn,v=>(∃a b c,P.underlying t=some (.func a b c))/\v= .nilFunc
 | .iface,v=>(∃m,P.underlying t=some (.interface m))/\v= .nilIface
 | .map,v=>(∃k e,P.underlying t=some (.map k e))/\v= .map none
theorem adt{t:TypeId}{k:NK}{x:AV}{xv O6:Value}{r:Bool}(hx:VR g lb x xv)(h:isNil k x=some r)(ht:k.fits P t O6):
  (Op.equal t xv O6).run P w= .ok r w:=by
 have key:∀d,(Op.equalIn (d+1) t xv O6).run P w= .ok r w:=by
  intro d;unfold isNil at h;split at h<;>first|(cases h;done)|skip
  all_goals cases h
  all_goals first
   |(obtain⟨⟨e,hu⟩,rfl⟩:=ht;cases hx<;>first|(simp only[Op.equalIn,Sem.run_bind,run_underlying hu,Result.andThen_ok];rfl)|(exfalso;simp_all [nu];done))
   |(obtain⟨⟨e,e',hu⟩,rfl⟩:=ht;cases hx<;>(simp only[Op.equalIn,Sem.run_bind,run_underlying hu,Result.andThen_ok];rfl))
   |(obtain⟨⟨e,e',e'',hu⟩,rfl⟩:=ht;cases hx<;>(simp only[Op.equalIn,Sem.run_bind,run_underlying hu,Result.andThen_ok];rfl))
 exact key 9999
end
def Fz:Value->Option AV
 | .bool b=>some (.bool b)
 | .int k n=>some (.int k n)
 | .string s=>some (.str (s.data.toList.map UInt8.toNat))
 | .pointer none=>some .iW
 | .slice none 0 0=>some (.list .nil [])
 | .map none=>some .gZ
 | .nilFunc=>some .fX
 | .nilIface=>some .gy
 |_=>none
def FA:List Value->Option (List AV)
 |[]=>some []
 |v::l=>match Fz v,FA l with
  |some a,some m=>some (a::m)
  |_,_=>none
def Cz:Value->Option AV
 | .agg cs=>(FA cs.toList).map .agg
 | .tuple a=>if a.size=0 then some .undef else none
 | .func (.func f) a b=>if a.size=0/\b.size=0 then some (.fn (.func f) [] [])else none
 |v=>Fz v
def cB:Operand->Option br
 | .tmp t=>some (.t t)
 | .const v=>(Cz v).map .c
 | .global g=>some (.g g)
 | .func f=>some (.c (.fn (.func f) [] []))
def wM:List Operand->Option (List br)
 |[]=>some []
 |x::l=>match cB x,wM l with
  |some a,some m=>some (a::m)
  |_,_=>none
section
variable(P:Program)
def kY(t:TypeId):Option Nat:=match P.info? t with
 |some i=>if 0<i.size then some i.size else none
 |none=>none
def wq(t:TypeId):Option Bool:=match P.underlying t with
 |some (.struct _)=>some true
 |some (.array _ _)=>some true
 |some _=>some false
 |none=>none
def u2(t:TypeId):Option (List AV):=match P.info? t with
 |some i=>match i.zero with
  |some z=>match Cz z with
   |some v=>if 0<i.size/\z.cells.size=i.size/\v.cells.length=i.size then some v.cells else none
   |none=>none
  |none=>none
 |none=>none
def Yp(t:TypeId):Option AV:=match P.info? t with
 |some i=>match i.zero with
  |some z=>Cz z
  |none=>none
 |none=>none
def JR(s:TypeId)(f:Nat):Option (Nat×TypeId):=match P.underlying s with
 |some (.struct fields)=>match fields[f]? with
  |some fd=>some (fd.offset,fd.type)
  |none=>none
 |_=>none
def places:List Field->Option (List (Nat×Nat))
 |[]=>some []
 |f::l=>match P.info? f.type,places l with
  |some i,some m=>some ((f.offset,i.size)::m)
  |_,_=>none
def AJ(fields:Array Field):List (Nat×Operand)->Option (List (Nat×Nat×br))
 |[]=>some []
 |(i,x)::l=>match fields[i]?,cB x,AJ fields l with
  |some fd,some x',some l'=>match kY P fd.type with
   |some n=>some ((fd.offset,n,x')::l')
   |none=>none
  |_,_,_=>none
def AI(sz:Nat):List (Nat×Operand)->Option (List (Nat×Nat×br))
 |[]=>some []
 |(i,x)::l=>match cB x,AI sz l with
  |some x',some l'=>some ((i*sz,sz,x')::l')
  |_,_=>none
def F4:Nat->List (Nat×Operand)->Option (List Operand)
 |_,[]=>some []
 |k,(i,x)::l=>if i=k then(F4 (k+1) l).map (x::·)else none
def qf(t:TypeId):Option KK:=match P.underlying t with
 |some (.int _)=>some .int
 |some .string=>some .str
 |some .bool=>some .bool
 |_=>none
def Gi:Nat->List Field->Option (List KK)
 |_,[]=>some []
 |k,f::l=>match qf P f.type,kY P f.type,Gi (k+1) l with
  |some kk,some 1,some ks=>if f.name≠ "_" /\f.offset=k then some (kk::ks)else none
  |_,_,_=>none
def C9(t:TypeId):Option (List KK):=
 if P.eqGuardType P.depth t then none else
 match P.underlying t with
  |some (.struct fields)=>if P.stoodInHeld t then none else Gi P 0 fields.toList
  |some (.array n e)=>match qf P e,kY P e with
   |some kk,some 1=>some (List.replicate n kk)
   |_,_=>none
  |_=>none
def ud:Option Operand->Option (Option br)
 |none=>some none
 |some x=>(cB x).map some
def O5:NK->Operand->Bool
 | .ptr,.const (.pointer none)=>true
 | .slice,.const (.slice none 0 0)=>true
 | .fn,.const .nilFunc=>true
 | .iface,.const .nilIface=>true
 | .map,.const (.map none)=>true
 |_,_=>false
def vf(k:NK)(op:BinOp)(x:br)(y:Operand):Option AO:=
 if O5 k y then match op with
  | .eql=>some (.Iz false k x)
  | .neq=>some (.Iz true k x)
  |_=>none
 else none
def P1(t:TypeId):Option TypeId:=match P.info? t with
 |some i=>match i.desc,i.zero,P.underlying t with
  | .named "strings.Builder" _,some (.agg ⟨[.pointer none,.slice none 0 0]⟩),some (.struct ⟨[_,fd]⟩)=>match P.underlying fd.type with
   |some (.slice e)=>some e
   |_=>none
  |_,_,_=>none
 |none=>none
def AY(bj:Nat->Bool):Option Nat->Bool
 |some d=>bj d
 |none=>false
def L0(bj:Nat->Bool):Option Nat->Bool
 |some d=>bj (d+1048576)
 |none=>false
def cV(bj:Nat->Bool)(o:Oper):Option AO:=
 match o.op with
 | .move x=>(cB x).map .mv
 | .assign x=>(cB x).map .mv
 | .pick c a b=>match cB c,cB a,cB b with
  |some c,some a,some b=>some (.pick c a b)
  |_,_,_=>none
 | .alloc e=>match o.dst,u2 P e with
  |some d,some z=>match(if bj d then P1 P e else none)with
   |some be=>some (.abld e be)
   |none=>some (.alloc (bj d) z)
  |_,_=>none
 | .box e x=>match o.dst,kY P e,cB x with
  |some d,some n,some x=>some (.box (bj d) n x)
  |_,_,_=>none
 | .build t parts=>match u2 P t,P.underlying t with
  |some z,some (.struct fields)=>match places P fields.toList with
   |some _=>(AJ P fields parts.toList).map (.build z)
   |none=>none
  |some z,some (.array _ e)=>match kY P e with
   |some sz=>(AI sz parts.toList).map (.build z)
   |none=>none
  |_,_=>none
 | .buildSlice t len parts=>match P.underlying t,F4 0 parts.toList with
  |some (.slice e),some xs=>match kY P e,wq P e,u2 P e,wM xs with
   |some sz,some ag,some _,some wv=>if xs.length=len/\len*sz<=2^24 then some (.yB ag sz wv)else none
   |_,_,_,_=>none
  |_,_=>none
 | .load t a=>match wq P t,kY P t,cB a with
  |some ag,some n,some a=>some (.ld ag n a)
  |_,_,_=>none
 | .store t a x=>match kY P t,cB a,cB x with
  |some n,some a,some x=>some (.st n a x)
  |_,_,_=>none
 | .nilCheck x=>(cB x).map .Je
 | .binOp op t x y _=>
  match P.underlying t,cB x,cB y with
  |some (.int _),some x',some y'=>some (.bin op x' y')
  |some .string,some x',some y'=>some (.bin op x' y')
  |some .bool,some x',some y'=>(match op with
    | .eql=>some (.C4 false x' y')
    | .neq=>some (.C4 true x' y')
    |_=>none)
  |some (.struct _),some x',some y'=>(match C9 P t,op with
    |some ks,.eql=>some (.eqs false ks x' y')
    |some ks,.neq=>some (.eqs true ks x' y')
    |_,_=>none)
  |some (.array _ _),some x',some y'=>(match C9 P t,op with
    |some ks,.eql=>some (.eqs false ks x' y')
    |some ks,.neq=>some (.eqs true ks x' y')
    |_,_=>none)
  |some (.pointer _),some x',some _=>vf .ptr op x' y
  |some (.slice _),some x',some _=>vf .slice op x' y
  |some (.func _ _ _),some x',some _=>vf .fn op x' y
  |some (.interface _),some x',some _=>vf .iface op x' y
  |some (.map _ _),some x',some _=>vf .map op x' y
  |_,_,_=>none
 | .makeSlice t n c=>match P.underlying t,cB n,cB c with
  |some (.slice e),some n,some c=>match u2 P e,P.info? e with
   |some z,some i=>some (.mkslc (if(wq P e).getD true then z.length else 0) z i.bytes n c)
   |_,_=>none
  |_,_,_=>none
 | .unOp op _ x=>(cB x).map (.un op)
 | .convert s d x=>match P.underlying s,P.underlying d,cB x with
  |some _,some (.int k),some x=>some (.conv (.int k) x)
  |some .string,some .string,some x=>some (.conv .same x)
  |some (.int _),some .string,some x=>some (.conv .char x)
  |_,_,_=>none
 | .makeInterface t x=>match P.underlying t,cB x with
  |some (.interface _),_=>none
  |some _,some x=>some (.OV t x)
  |_,_=>none
 | .makeFunc (.func f) a b=>match wM a.toList,wM b.toList with
  |some a,some b=>some (.zJ (.func f) a b)
  |_,_=>none
 | .fieldAddr s x f=>match JR P s f,cB x with
  |some (off,t),some x=>match kY P t with
   |some _=>some (.fa off x)
   |none=>none
  |_,_=>none
 | .field s x f=>match JR P s f,cB x with
  |some (off,t),some x=>match kY P t,wq P t with
   |some n,some ag=>some (.C_ ag off n x)
   |_,_=>none
  |_,_=>none
 | .indexAddr t x i=>match P.underlying t,cB x,cB i with
  |some (.slice e),some x,some i=>(kY P e).map fun sz=> .ia sz x i
  |some (.array n e),some x,some i=>(kY P e).map fun sz=> .Oj n sz x i
  |_,_,_=>none
 | .index t x i=>match P.underlying t,cB x,cB i with
  |some (.array n e),some x,some i=>match kY P e,wq P e with
   |some sz,some ag=>some (.On ag n sz x i)
   |_,_=>none
  |some .string,some x,some i=>some (.pn x i)
  |_,_,_=>none
 | .lookup t m k ok=>match P.underlying t,cB m,cB k with
  |some (.map kt e),some m,some k=>match Yp P e,qf P kt with
   |some z,some kk=>some (.lookup kk z ok m k)
   |_,_=>none
  |_,_,_=>none
 | .mapUpdate t m k v=>match P.underlying t,cB m,cB k,cB v with
  |some (.map kt _),some m,some k,some v=>(qf P kt).map fun kk=> .mapup kk m k v
  |_,_,_,_=>none
 | .insert t m k v=>match P.underlying t,cB m,cB k,cB v with
  |some (.map kt _),some m,some k,some v=>(qf P kt).map fun kk=> .mapup kk m k v
  |_,_,_,_=>none
 | .makeMap _ none=>some .mkmap
 | .makeMap t (some (.const (.int _ _)))=>match P.underlying t with
  |some (.map _ _)=>some .mkmap
  |_=>none
 | .slice t x lo hi mx=>match P.underlying t,cB x,ud lo,ud hi,ud mx with
  |some (.slice e),some x,some lo,some hi,some mx=>if mx.isSome&& !hi.isSome then none else(kY P e).map fun sz=> .JG sz x lo hi mx
  |some .string,some x,some lo,some hi,some none=>some (.JH x lo hi)
  |_,_,_,_,_=>none
 | .extract x k=>(cB x).map fun x=> .ext x k
 | .call c=>match c.callee with
  | .value f=>match cB f,wM c.args.toList with
   |some f',some args=>some (if L0 bj o.dst then(match f with| .func k=> .call (.c (.fn (.methodOf k "") [] [])) args|_=> .bad)else if AY bj o.dst then .callz f' args else .call f' args)
   |_,_=>none
  | .builtin .append=>match c.args.toList,c.argTypes.toList with
   |[x,y],[t,t']=>match P.underlying t,cB x,cB y with
    |some (.slice e),some x,some y=>match P.info? e,wq P e,u2 P e with
     |some i,some ag,some _=>if t=t' then some (if AY bj o.dst then .appm ag i.size i.bytes e x y else .app ag i.size i.bytes e x y)else none
     |_,_,_=>none
    |_,_,_=>none
   |_,_=>none
  | .builtin .len=>match c.args.toList,c.argTypes.toList with
   |[x],[t]=>match P.underlying t,cB x with
    |some .string,some x=>some (.lens x)
    |some (.slice _),some x=>some (.len x)
    |some (.map _ _),some x=>some (.Ew x)
    |some (.array n _),some _=>some (.OJ n)
    |_,_=>none
   |_,_=>none
  | .builtin .delete=>match c.args.toList,c.argTypes.toList with
   |[m,k],t::_=>match P.underlying t,cB m,cB k with
    |some (.map kt _),some m,some k=>(qf P kt).map fun kk=> .del kk m k
    |_,_,_=>none
   |_,_=>none
  | .builtin .copy=>match c.args.toList,c.argTypes.toList with
   |[x,y],t::_=>match P.underlying t,cB x,cB y with
    |some (.slice e),some x,some y=>(kY P e).map fun sz=> .cpy sz x y
    |_,_,_=>none
   |_,_=>none
  | .builtin .clear=>match c.args.toList,c.argTypes.toList with
   |[x],[t]=>match P.underlying t,cB x with
    |some (.slice e),some x=>(u2 P e).map fun z=> .clr z x
    |_,_=>none
   |_,_=>none
  | .builtin .max=>match c.args.toList with
   |[x,y]=>match cB x,cB y with
    |some x,some y=>some (.max x y)
    |_,_=>none
   |_=>none
  | .builtin .min=>match c.args.toList with
   |[x,y]=>match cB x,cB y with
    |some x,some y=>some (.min x y)
    |_,_=>none
   |_=>none
  |_=>none
 | .range t x=>match P.underlying t,cB x with
  |some .string,some x=>some (.tN x)
  |_,_=>none
 | .next x true=>(cB x).map .EH
 |_=>none
def Sl(bj:Nat->Bool)(o:Oper):AO:=(cV P bj o).getD .bad
end
section
variable{P:Program}{g:Gh}{lb:LB}
theorem Qm{v:Value}{a:AV}(h:Fz v=some a):VR g lb a v/\v.oneCell'=true:=by
 unfold Fz at h;split at h<;>first|(cases h;done)|skip
 all_goals(cases h;refine⟨?_,rfl⟩)
 ·exact .bool _ _
 ·exact .int _ _ _
 ·exact .str _ _ _ rfl
 ·exact .iW _
 ·exact .iU _
 ·exact .gZ _
 ·exact .fX _
 ·exact .gy _
theorem YX{l:List Value}{m:List AV}(h:FA l=some m):PW (VR g lb) m l/\∀v∈l,v.oneCell'=true:=by
 induction l generalizing m with
 |nil=>cases h;exact⟨PW.nil,by simp⟩
 |cons v l ih=>
  simp only[FA]at h
  split at h
  ·rename_i a m' h1 h2;cases h;obtain⟨k1,k2⟩:=ih h2;obtain⟨k3,k4⟩:=Qm (g:=g) (lb:=lb) h1;exact⟨PW.cons k3 k1,by simp only[List.mem_cons,forall_eq_or_imp];exact⟨k4,k2⟩⟩
  ·cases h
theorem Kn{v:Value}{a:AV}(h:Cz v=some a):VR g lb a v:=by
 unfold Cz at h;split at h
 ·rename_i cs;simp only[bD]at h;obtain⟨l,hl,rfl⟩:=h;obtain⟨k1,k2⟩:=YX (g:=g) (lb:=lb) hl;exact .agg _ _ _ (by simpa using k1.1.symm) (fun i hi=>k2 _ (by simp)) (fun i hi ae=>by have:=k1.2 i hi (by simpa using ae);rwa[mz]at this)
 ·rename_i a;split at h
  ·rename_i h0;cases h;have:a= #[]:=Array.size_eq_zero_iff.1 h0;subst this;exact .undef _
  ·cases h
 ·rename_i f a b;split at h
  ·rename_i h0;cases h;refine .fn _ _ _ _ _ a b h0.1 h0.2 rfl (fun i hi=>by simp at hi) (fun i hi=>by simp at hi)
  ·cases h
 ·exact(Qm h).1
end
section
variable{P:Program}{base:Nat}{LC:eY}{g:Gh}{lb:LB}{own:OW}{loc:Nat->Option (Nat×θ)}{mem:Mem}{w:World}{bj:Nat->Bool}{ay:cx}
variable{ev:br->AV}{a:Act}
def rA(P:Program)(base:Nat)(LC:eY)(g:Gh)(lb:LB)(own:OW)(loc:Nat->Option (Nat×θ))(w:World)(a:Act)(o:Oper)(v:AV)(u:kL)(m':Mem):Prop:=
 ∃x w',((execOp a.eval o).run P w= .ok (.value x) w'\/((execOp a.eval o).run P w= .ok .skip w'/\x=undef))/\ib base LC g lb own loc w v u m' x w'
abbrev gI(P:Program)(bj:Nat->Bool)(base:Nat)(LC:eY)(g:Gh)(lb:LB)(own:OW)(loc:Nat->Option (Nat×θ))(mem:Mem)(w:World)(ay:cx)(ev:br->AV)(a:Act)(o:Oper)(ao:AO)(v:AV)(u:kL)(m':Mem):Prop:=cV P bj o=some ao->aI ev loc mem ay o.dst ao=some (v,u,m')->rA P base LC g lb own loc w a o v u m'
def eU(g:Gh)(lb:LB)(ev:br->AV)(a:Act):Prop:=∀x x',cB x=some x'->VR g lb (ev x') (a.eval x)
theorem Ga(aq:eU g lb ev a){l:List Operand}{m:List br}(h:wM l=some m):PW (VR g lb) (m.map ev) (l.map a.eval):=by
 induction l generalizing m with
 |nil=>cases h;exact PW.nil
 |cons x l ih=>
  simp only[wM]at h
  split at h
  ·rename_i x' m' h1 h2;cases h;exact PW.cons (aq _ _ h1) (ih h2)
  ·cases h
theorem pD{t:TypeId}{n:Nat}(h:kY P t=some n):(sizeOf t).run P w= .ok n w/\0<n/\(P.info? t).map (·.size)=some n:=by
 unfold kY at h;split at h
 ·rename_i i hi;split at h
  ·rename_i h0;cases h;exact⟨by simp[sizeOf,typeInfo,hi],h0,by simp[hi]⟩
  ·cases h
 ·cases h
theorem JQ{t:TypeId}{ag:Bool}(h:wq P t=some ag):(isAgg t).run P w= .ok ag w:=by
 unfold wq at h;split at h
 ·rename_i hu;cases h;simp[isAgg,run_underlying hu]
 ·rename_i hu;cases h;simp[isAgg,run_underlying hu]
 ·rename_i d h1 h2 hu;cases h;have hd:∀w:World,(isAgg t).run P w=(match d with| .struct _| .array _ _=>(pure true:Sem Bool)|_=>pure false).run P w:=fun w=>by simp only[isAgg,Sem.run_bind,run_underlying hu,Result.andThen_ok]
  rw[hd];cases d<;>first|rfl|(exact absurd rfl (h1 _))|(exact absurd rfl (h2 _ _))
 ·cases h
theorem Ai{t:TypeId}{l:List AV}(h:u2 P t=some l):∃z i,P.info? t=some i/\i.zero=some z/\(zeroValue t).run P w= .ok z w/\z.cells.size=i.size/\l.length=i.size/\0<i.size∧
  PW (VR g lb) l z.cells.toList/\∀v∈z.cells.toList,v.oneCell'=true:=by
 unfold u2 at h;split at h
 ·rename_i i hi;split at h
  ·rename_i z hz;split at h
   ·rename_i v hv;split at h
    ·rename_i hc;cases h;have xE:=Kn (g:=g) (lb:=lb) hv;obtain⟨k1,k2,k3⟩:=xE.cells (by intro hn;rw[hn]at hc;simp at hc;omega);refine⟨z,i,hi,hz,by simp[zeroValue,typeInfo,hi,hz],hc.2.1,hc.2.2,hc.1,⟨by simpa using k1.symm,fun i hi ae=>?_⟩,fun u hu=>?_⟩
     ·have:=k2 i hi (by simpa using ae);rwa[mz]
     ·obtain⟨j,hj,rfl⟩:=pG.1 hu;have:=k3 j (by simpa using hj);rwa[mz]
    ·cases h
   ·cases h
  ·cases h
 ·cases h
theorem Jt{v:AV}{x:Value}(h:VR g lb v x)(hn:0<v.cells.length):PW (VR g lb) v.cells x.cells.toList/\∀u∈x.cells.toList,u.oneCell'=true:=by
 obtain⟨k1,k2,k3⟩:=h.cells (by intro h0;rw[h0]at hn;simp at hn);refine⟨⟨by simpa using k1.symm,fun i hi ae=>?_⟩,fun u hu=>?_⟩
 ·have:=k2 i hi (by simpa using ae);rwa[mz]
 ·obtain⟨j,hj,rfl⟩:=pG.1 hu;have:=k3 j (by simpa using hj);rwa[mz]
theorem L4(off:Nat):∀(vs:List Value) (k:Nat) (cs:Array Value),off+k+vs.length<=cs.size→
  ((vs.zipIdx k).foldl (fun cs (c,j)=>cs.setIfInBounds (off+j) c) cs).toList=cs.toList.take (off+k)++vs++cs.toList.drop (off+k+vs.length)
 |[],k,cs,_=>by simp
 |v::vs,k,cs,h=>by simp only[cD]at h;simp only[List.zipIdx_cons,List.foldl_cons];rw[L4 off vs (k+1) (cs.setIfInBounds (off+k) v) (by simp;omega)];have:=Go.list_seg_step cs.toList (off+k) v vs (by simp;omega);simpa[Array.toList_setIfInBounds,rz,Nat.add_comm,Nat.add_left_comm]using this
theorem LX(aq:eU g lb ev a)(place:Nat->Option (Nat×Nat)):∀(parts:List (Nat×Operand)) (ps:List (Nat×Nat×br)) (cs:List AV) (vs:Array Value) (r:List AV),
  parts.length=ps.length->(∀k (h:k<parts.length) (h':k<ps.length),place parts[k].1=some (ps[k].1,ps[k].2.1)/\cB parts[k].2=some ps[k].2.2/\0<ps[k].2.1)→
  PW (VR g lb) cs vs.toList->(∀v∈vs.toList,v.oneCell'=true)->dd ev ps cs=some r→
  ∃ws:Array Value,Instr.fill place vs (parts.map fun(i,x)=>(i,a.eval x))=some ws/\PW (VR g lb) r ws.toList/\∀v∈ws.toList,v.oneCell'=true
 |[],[],cs,vs,r,_,_,hp,h1,hr=>by cases hr;exact⟨vs,rfl,hp,h1⟩
 |[],_::_,_,_,_,hl,_,_,_,_=>by simp at hl
 |_::_,[],_,_,_,hl,_,_,_,_=>by simp at hl
 |(i,x)::parts,(off,size,x')::ps,cs,vs,r,hl,hk,hp,h1,hr=>by
  obtain⟨k1,k2,k3⟩:=hk 0 (by simp) (by simp);simp only[kJ]at k1 k2 k3;simp only[dd]at hr;split at hr
  ·rename_i hc;obtain⟨ep,hle⟩:=hc;obtain⟨q1,q2⟩:=Jt (aq _ _ k2) (by omega);have aL:(a.eval x).cells.size=size:=by have:=q1.1;simp at this;omega
   have BE:vs.size=cs.length:=by have:=hp.1;simp at this;omega
   let tP:Array Value:=(a.eval x).cells.zipIdx.foldl (fun cs (c,j)=>cs.setIfInBounds (off+j) c) vs;have D':tP.toList=vs.toList.take off++(a.eval x).cells.toList++vs.toList.drop (off+(a.eval x).cells.toList.length):=by have h:=L4 off (a.eval x).cells.toList 0 vs (by simp only[wC,aL,BE];omega);simp only[qu]at h;rw[<-h];simp only[tP,<-alz,alA]
   have qS:PW (VR g lb) (dk cs off (ev x').cells) tP.toList:=by rw[D'];unfold dk;have hlen:=q1.1;rw[hlen];exact((hp.take off).append q1).append (hp.drop _)
   have kA:∀v∈tP.toList,v.oneCell'=true:=by
    rw[D'];intro v hv;rcases dT.1 hv with hv|hv
    ·rcases dT.1 hv with hv|hv
     ·exact h1 _ (qt hv)
     ·exact q2 _ hv
    ·exact h1 _ (tW hv)
   obtain⟨ws,e1,e2,e3⟩:=LX aq place parts ps _ tP r (by simpa using hl) (fun k h h'=>by have:=hk (k+1) (by simpa using h) (by simpa using h');simpa using this) qS kA hr;refine⟨ws,?_,e2,e3⟩;simp only[az,Instr.fill,k1];rw[if_neg (by simp[aL,BE];omega)];exact e1
  ·cases hr
theorem ajm{fs:List Field}{m:List (Nat×Nat)}(h:places P fs=some m):(fs.mapM fun f=>do pure (f.offset,<-sizeOf f.type):Sem (List (Nat×Nat))).run P w= .ok m w∧
  ∀(k:Nat) (fd:Field),fs[k]?=some fd->∃i,P.info? fd.type=some i/\m[k]?=some (fd.offset,i.size):=by
 induction fs generalizing m with
 |nil=>cases h;exact⟨rfl,by simp⟩
 |cons f fs ih=>
  simp only[places]at h
  split at h
  ·rename_i i m' hi hm;cases h;obtain⟨k1,k2⟩:=ih hm;refine⟨?_,fun k fd hk=>?_⟩
   ·have hs:(sizeOf f.type).run P w= .ok i.size w:=by simp[sizeOf,typeInfo,hi]
    simp only[List.mapM_cons,Sem.run_bind,hs,Result.andThen_ok,Sem.run_pure,k1]
   ·cases k with
    |zero=>simp at hk;subst hk;exact⟨i,hi,by simp⟩
    |succ k=>simpa using k2 k fd (by simpa using hk)
  ·cases h
theorem Z_{fields:Array Field}{parts:List (Nat×Operand)}{ps:List (Nat×Nat×br)}(h:AJ P fields parts=some ps):
  parts.length=ps.length/\∀k (h:k<parts.length) (h':k<ps.length),(∃fd,fields[parts[k].1]?=some fd/\fd.offset=ps[k].1/\kY P fd.type=some ps[k].2.1)/\cB parts[k].2=some ps[k].2.2:=by
 induction parts generalizing ps with
 |nil=>cases h;exact⟨rfl,fun k h=>by simp at h⟩
 |cons p parts ih=>
  obtain⟨i,x⟩:=p
  simp only[AJ]at h;split at h
  ·rename_i fd x' l' h1 h2 h3;split at h
   ·rename_i n hn;cases h;obtain⟨e1,e2⟩:=ih h3;refine⟨by simp[e1],fun k hk df=>?_⟩;cases k with
    |zero=>exact⟨⟨fd,h1,rfl,hn⟩,h2⟩
    |succ k=>exact e2 k (by simpa using hk) (by simpa using df)
   ·cases h
  ·cases h
theorem Z9{sz:Nat}{parts:List (Nat×Operand)}{ps:List (Nat×Nat×br)}(h:AI sz parts=some ps):
  parts.length=ps.length/\∀k (h:k<parts.length) (h':k<ps.length),ps[k].1=parts[k].1*sz/\ps[k].2.1=sz/\cB parts[k].2=some ps[k].2.2:=by
 induction parts generalizing ps with
 |nil=>cases h;exact⟨rfl,fun k h=>by simp at h⟩
 |cons p parts ih=>
  obtain⟨i,x⟩:=p
  simp only[AI]at h;split at h
  ·rename_i x' l' h2 h3;cases h;obtain⟨e1,e2⟩:=ih h3;refine⟨by simp[e1],fun k hk df=>?_⟩;cases k with
   |zero=>exact⟨rfl,rfl,h2⟩
   |succ k=>exact e2 k (by simpa using hk) (by simpa using df)
  ·cases h
theorem Qn{r:List AV}{ws:Array Value}(h:PW (VR g lb) r ws.toList)(h1:∀v∈ws.toList,v.oneCell'=true):VR g lb (.agg r) (.agg ws):=
 .agg _ _ _ (by simpa using h.1.symm) (fun i hi=>h1 _ (by simp)) fun i hi ae=>by have:=h.2 i hi (by simpa using ae);rwa[mz]at this
theorem Xs{r:List AV}{ws:Array Value}(h:VR g lb (.agg r) (.agg ws)):PW (VR g lb) r ws.toList/\∀v∈ws.toList,v.oneCell'=true:=by
 cases h with
 |agg _ _ _ hs h1 hv=>
  refine⟨⟨by simpa using hs.symm,fun i hi ae=>by rw[mz];exact hv i hi _⟩,fun v nI=>?_⟩
  obtain⟨j,hj,rfl⟩:=pG.1 nI;rw[mz];exact h1 j _
theorem run_build(aq:eU g lb ev a){t:TypeId}{parts:Array (Nat×Operand)}{z:List AV}{ps:List (Nat×Nat×br)}{r:List AV}(hz:u2 P t=some z)
  (cX:(∃fields m,P.underlying t=some (.struct fields)/\places P fields.toList=some m/\AJ P fields parts.toList=some ps)∨
   (∃n e sz,P.underlying t=some (.array n e)/\kY P e=some sz/\AI sz parts.toList=some ps))
  (hr:dd ev ps z=some r):∃x,(Instr.build t (parts.map fun(i,x)=>(i,a.eval x))).run P w= .ok x w/\VR g lb (.agg r) x:=by
 obtain⟨zv,i,hi,gu,iI,-,-,-,cO,h1⟩:=Ai (P:=P) (g:=g) (lb:=lb) (w:=w) hz;have zg:(parts.map fun(i,x)=>(i,a.eval x)).toList=parts.toList.map fun(i,x)=>(i,a.eval x):=by simp
 rcases cX with⟨fields,m,hu,dH,hc⟩|⟨n,e,sz,hu,aL,hc⟩
 ·obtain⟨e1,e2⟩:=Z_ hc;obtain⟨p1,p2⟩:=ajm (w:=w) dH;obtain⟨ws,k1,k2,k3⟩:=LX aq (fun i=>m.toArray[i]?) parts.toList ps z zv.cells r e1 (fun k h h'=>by
   obtain⟨⟨fd,q1,q2,q3⟩,q4⟩:=e2 k h h'
   obtain⟨i',q5,q6⟩:=p2 parts.toList[k].1 fd (by simpa using q1);unfold kY at q3;rw[q5]at q3;dsimp only at q3;split at q3
   ·rename_i h0;simp only[bh]at q3;refine⟨by simp only[Kc,q6,q2,q3],q4,by rw[<-q3];exact h0⟩
   ·cases q3) cO h1 hr
  refine⟨.agg ws,?_,Qn k2 k3⟩;have zi:(fields.mapM fun f=>do pure (f.offset,<-sizeOf f.type):Sem (Array (Nat×Nat))).run P w= .ok m.toArray w:=by rw[Array.mapM_eq_mapM_toList];simp only[Sem.run_map,p1,Result.andThen_ok]
  simp only[Instr.build,Sem.run_bind,iI,Result.andThen_ok,run_underlying hu,zi,zg,k1];rfl
 ·obtain⟨e1,e2⟩:=Z9 hc;obtain⟨s1,s2,-⟩:=pD (P:=P) (w:=w) aL;obtain⟨ws,k1,k2,k3⟩:=LX aq (fun i=>some (i*sz,sz)) parts.toList ps z zv.cells r e1 (fun k h h'=>by
   obtain⟨q1,q2,q3⟩:=e2 k h h'
   exact⟨by rw[q1,q2],q3,by rw[q2];exact s2⟩) cO h1 hr
  refine⟨.agg ws,?_,Qn k2 k3⟩;simp only[Instr.build,Sem.run_bind,iI,Result.andThen_ok,run_underlying hu,s1,zg,k1];rfl
end
section
variable{P:Program}{base:Nat}{LC:eY}{g:Gh}{lb:LB}{own:OW}{loc:Nat->Option (Nat×θ)}{mem:Mem}{w:World}{bj:Nat->Bool}{ay:cx}
variable{ev:br->AV}{a:Act}{o:Oper}{ao:AO}{v:AV}{u:kL}{m':Mem}
theorem rA.pure(hm:bc g own LC mem w)(hl:cz g lb own loc w)(ho:bT base own w){x:Value}(h1:(execOp a.eval o).run P w= .ok (.value x) w)(h2:VR g lb v x):
  rA P base LC g lb own loc w a o v none mem:=⟨x,w,.inl h1,ib.pure hm hl ho h2⟩
theorem WX(aq:eU g lb ev a)(hm:bc g own LC mem w)(hl:cz g lb own loc w)(ho:bT base own w){x:Operand}(Ξ:o.op= .move x\/o.op= .assign x)
  :gI P bj base LC g lb own loc mem w ay ev a o ao v u m':=fun hc hr=>by
 have hx:∃x',cB x=some x'/\ao= .mv x':=by rcases Ξ with Ξ|Ξ<;>simp only[cV,Ξ,bD]at hc<;>(obtain⟨x',h1,rfl⟩:=hc;exact⟨x',h1,rfl⟩)
 obtain⟨x',gr,rfl⟩:=hx;simp only[aI,bh,aA]at hr;obtain⟨rfl,rfl,rfl⟩:=hr;exact .pure hm hl ho (by rcases Ξ with Ξ|Ξ<;>simp only[execOp,Ξ]<;>rfl) (aq _ _ gr)
theorem ahe(aq:eU g lb ev a)(hm:bc g own LC mem w)(hl:cz g lb own loc w)(ho:bT base own w){x y z:Operand}(Ξ:o.op= .pick x y z)
  :gI P bj base LC g lb own loc mem w ay ev a o ao v u m':=fun hc hr=>by
 simp only[cV,Ξ]at hc;split at hc
 ·rename_i x' y' z' h1 h2 h3;cases hc;simp only[aI]at hr;split at hr
  ·rename_i t ht;simp only[bh,aA]at hr;obtain⟨rfl,rfl,rfl⟩:=hr;have k1:=aq _ _ h1;rw[ht]at k1;cases hx:a.eval x<;>rw[hx]at k1<;>cases k1;refine .pure (x:=if t then a.eval y else a.eval z) hm hl ho ?_ ?_
   ·simp only[execOp,Ξ,hx];cases t<;>rfl
   ·cases t
    ·exact aq _ _ h3
    ·exact aq _ _ h2
  ·cases hr
 ·cases hc
theorem agT(aq:eU g lb ev a)(hm:bc g own LC mem w)(hl:cz g lb own loc w)(ho:bT base own w){t:TypeId}{parts:Array (Nat×Operand)}(Ξ:o.op= .build t parts)
  :gI P bj base LC g lb own loc mem w ay ev a o ao v u m':=fun hc hr=>by
 have key:∃z ps,ao= .build z ps/\u2 P t=some z/\((∃fields m,P.underlying t=some (.struct fields)/\places P fields.toList=some m/\AJ P fields parts.toList=some ps)∨
   (∃n e sz,P.underlying t=some (.array n e)/\kY P e=some sz/\AI sz parts.toList=some ps)):=by
  simp only[cV,Ξ]at hc;split at hc
  ·rename_i z fields hz hu;split at hc
   ·rename_i m dH;simp only[bD]at hc;obtain⟨ps,h1,rfl⟩:=hc;exact⟨z,ps,rfl,hz,.inl ⟨fields,m,hu,dH,h1⟩⟩
   ·cases hc
  ·rename_i z n e hz hu;split at hc
   ·rename_i sz aL;simp only[bD]at hc;obtain⟨ps,h1,rfl⟩:=hc;exact⟨z,ps,rfl,hz,.inr ⟨n,e,sz,hu,aL,h1⟩⟩
   ·cases hc
  ·cases hc
 obtain⟨z,ps,rfl,hz,cX⟩:=key;simp only[aI,bD,aA]at hr;obtain⟨r,hr,rfl,rfl,rfl⟩:=hr;obtain⟨x,h1,h2⟩:=run_build (w:=w) aq hz cX hr;exact .pure hm hl ho (by simp only[execOp,Ξ,Sem.run_bind,h1,Result.andThen_ok];rfl) h2
theorem VR.abu{f f':Fn}{l m:List AV}{x y:Array Value}(h:VR g lb (.fn f l m) (.func f' x y))(hn:¬sK g.mb f f'):False:=by cases h;rename_i hy _ _;exact hn (by assumption)
theorem ahc(aq:eU g lb ev a)(hm:bc g own LC mem w)(hl:cz g lb own loc w)(ho:bT base own w){x:Operand}(Ξ:o.op= .nilCheck x)
  :gI P bj base LC g lb own loc mem w ay ev a o ao v u m':=fun hc hr=>by
 simp only[cV,Ξ,bD]at hc;obtain⟨x',h1,rfl⟩:=hc;have k1:=aq _ _ h1;have key:v=ev x'/\u=none/\m'=mem/\(execOp a.eval o).run P w= .ok (.value (a.eval x)) w:=by
  simp only[aI]at hr;split at hr<;>first|(cases hr;done)|skip
  all_goals
   rename_i he;rw[he]at k1;simp only[bh,aA]at hr;obtain⟨rfl,rfl,rfl⟩:=hr;refine⟨he.symm,rfl,rfl,?_⟩;cases hx:a.eval x<;>rw[hx]at k1<;>first
    |(cases k1;done)
    |(cases k1;simp only[execOp,Ξ,hx];rfl)
    |(rename_i f' _ _;cases f'<;>first|(cases k1;simp only[execOp,Ξ,hx];rfl)|(exact(VR.abu k1 (by simp[sK])).elim))
 obtain⟨rfl,rfl,rfl,h2⟩:=key;exact .pure hm hl ho h2 k1
theorem PF(op:BinOp)(t:TypeId)(x y:Operand){xv yv:Value}(h:(∀l,xv≠ .agg l)/\xv≠ .nilIface):(eqGuard op t x y xv yv).run P w= .ok () w:=by
 cases xv<;>first|(exact absurd rfl (h.1 _))|(exact absurd rfl h.2)|skip
 all_goals cases op<;>rfl
theorem WS(aq:eU g lb ev a)(hm:bc g own LC mem w)(hl:cz g lb own loc w)(ho:bT base own w){op:BinOp}{t ty:TypeId}{x y:Operand}(Ξ:o.op= .binOp op t x y ty)
  {x' y':br} (hx:cB x=some x') (hy:cB y=some y')
  (hr:aI ev loc mem ay o.dst (.bin op x' y')=some (v,u,m')):rA P base LC g lb own loc w a o v u m':=by
 simp only[aI,bD,aA]at hr;obtain⟨r,hr,rfl,rfl,rfl⟩:=hr;have k1:=aq _ _ hx;have k2:=aq _ _ hy;obtain⟨z,h1,h2⟩:=YT (P:=P) (w:=w) (t:=t) k1 k2 hr;refine .pure hm hl ho ?_ h2;have hg:(∀l,a.eval x≠ .agg l)/\a.eval x≠ .nilIface:=by
  unfold iE at hr;split at hr<;>first|(cases hr;done)|skip
  all_goals
   rename_i he _;rw[he]at k1;cases hz:a.eval x<;>rw[hz]at k1<;>cases k1<;>simp
 simp only[execOp,Ξ,Sem.run_bind,PF op t x y hg,h1,Result.andThen_ok];rfl
theorem WT(aq:eU g lb ev a)(hm:bc g own LC mem w)(hl:cz g lb own loc w)(ho:bT base own w){op:BinOp}{t ty:TypeId}{x y:Operand}(Ξ:o.op= .binOp op t x y ty)
  {x' y':br} (hx:cB x=some x') (hy:cB y=some y') (hu:P.underlying t=some .bool) {neg:Bool} (hn:op=if neg then .neq else .eql)
  (hr:aI ev loc mem ay o.dst (.C4 neg x' y')=some (v,u,m')):rA P base LC g lb own loc w a o v u m':=by
 simp only[aI]at hr;split at hr
 ·rename_i b c e1 e2;simp only[bh,aA]at hr;obtain⟨rfl,rfl,rfl⟩:=hr;have k1:=aq _ _ hx;have k2:=aq _ _ hy;rw[e1]at k1;rw[e2]at k2;cases bG:a.eval x<;>rw[bG]at k1<;>cases k1;cases vV:a.eval y<;>rw[vV]at k2<;>cases k2;have he:(Op.equal t (.bool b) (.bool c)).run P w= .ok (b==c) w:=run_equalIn_bool 9999 hu b c;refine .pure (x:= .bool (if neg then !(b==c)else b==c)) hm hl ho ?_ (.bool _ _);cases neg<;>simp only[jV,if_false,if_true]at hn<;>subst hn
  ·simp only[execOp,Ξ,bG,vV,Sem.run_bind,PF .eql t x y (xv:= .bool b) (yv:= .bool c) (by simp),Result.andThen_ok,binOp,he];rfl
  ·simp only[execOp,Ξ,bG,vV,Sem.run_bind,PF .neq t x y (xv:= .bool b) (yv:= .bool c) (by simp),Result.andThen_ok,binOp,he];rfl
 ·cases hr
theorem agw{k:NK}{y:Operand}{t:TypeId}(h:O5 k y=true)(ht:∀v,(match k with
  | .ptr=>v=Value.pointer none
  | .slice=>v= .slice none 0 0
  | .fn=>v= .nilFunc
  | .iface=>v= .nilIface
  | .map=>v= .map none)->k.fits P t v):∃v,y= .const v/\k.fits P t v/\(∀l,v≠ .agg l)/\(v= .nilIface->True)/\v.oneCell'=true:=by
 unfold O5 at h;split at h<;>first|(cases h;done)|exact⟨_,rfl,ht _ rfl,by simp,fun _=>trivial,rfl⟩
theorem ajl(op:BinOp)(t:TypeId)(x:Operand){xv v:Value}(h:∀l,v≠ .agg l):(eqGuard op t x (.const v) xv v).run P w= .ok () w:=by
 cases op<;>first|rfl|skip
 all_goals
  unfold eqGuard;cases xv<;>cases v<;>first|rfl|exact absurd rfl (h _)|(cases x<;>rfl)
theorem EK(aq:eU g lb ev a)(hm:bc g own LC mem w)(hl:cz g lb own loc w)(ho:bT base own w){op:BinOp}{t ty:TypeId}{x y:Operand}(Ξ:o.op= .binOp op t x y ty)
  {x':br} (hx:cB x=some x') {k:NK} (hc:vf k op x' y=some ao) (ht:∀v,(match k with
  | .ptr=>v=Value.pointer none
  | .slice=>v= .slice none 0 0
  | .fn=>v= .nilFunc
  | .iface=>v= .nilIface
  | .map=>v= .map none)->k.fits P t v)
  (hr:aI ev loc mem ay o.dst ao=some (v,u,m')):rA P base LC g lb own loc w a o v u m':=by
 unfold vf at hc;split at hc
 ·rename_i hn;obtain⟨nv,rfl,hf,lM,-,h1⟩:=agw (P:=P) (t:=t) hn ht;have k1:=aq _ _ hx;have UE:a.eval (.const nv)=nv:=rfl;obtain⟨xv,bG⟩:∃xv,a.eval x=xv:=⟨_,rfl⟩;rw[bG]at k1;have hg:=fun op=>ajl (P:=P) (w:=w) op t x (xv:=xv) lM;have Uu:∀r,isNil k (ev x')=some r->(binOp .eql t xv nv).run P w= .ok (.bool r) w/\(binOp .neq t xv nv).run P w= .ok (.bool (!r)) w:=by
   intro r hr;have he:=adt (P:=P) (w:=w) k1 hr hf;unfold isNil at hr;split at hr<;>first|(cases hr;done)|skip
   all_goals
    rename_i eu;rw[eu]at k1;cases k1<;>cases nv<;>first
     |(exact absurd rfl (lM _))
     |(cases h1;done)
     |(constructor<;>(simp only[binOp,Sem.run_bind,he,Result.andThen_ok];rfl))
     |(exfalso;obtain⟨_,hh⟩:=hf;cases hh;done)
  split at hc
  ·cases hc;simp only[aI,bD,aA,jV,if_false]at hr;obtain⟨r,hr,rfl,rfl,rfl⟩:=hr;refine .pure (x:= .bool r) hm hl ho ?_ (.bool _ _);simp only[execOp,Ξ,bG,UE,Sem.run_bind,hg,Result.andThen_ok,(Uu r hr).1];rfl
  ·cases hc;simp only[aI,bD,aA,if_true]at hr;obtain⟨r,hr,rfl,rfl,rfl⟩:=hr;refine .pure (x:= .bool (!r)) hm hl ho ?_ (.bool _ _);simp only[execOp,Ξ,bG,UE,Sem.run_bind,hg,Result.andThen_ok,(Uu r hr).2];rfl
  ·cases hc
 ·cases hc
theorem ahj(aq:eU g lb ev a)(hm:bc g own LC mem w)(hl:cz g lb own loc w)(ho:bT base own w){op:UnOp}{t:TypeId}{x:Operand}(Ξ:o.op= .unOp op t x)
  :gI P bj base LC g lb own loc mem w ay ev a o ao v u m':=fun hc hr=>by
 simp only[cV,Ξ,bD]at hc;obtain⟨x',h1,rfl⟩:=hc;simp only[aI,bD,aA]at hr;obtain⟨r,hr,rfl,rfl,rfl⟩:=hr;obtain⟨z,k1,k2⟩:=YW (P:=P) (w:=w) (aq _ _ h1) hr;exact .pure hm hl ho (by simp only[execOp,Ξ,Sem.run_bind,k1,Result.andThen_ok];rfl) k2
theorem agV(aq:eU g lb ev a)(hm:bc g own LC mem w)(hl:cz g lb own loc w)(ho:bT base own w){s d:TypeId}{x:Operand}(Ξ:o.op= .convert s d x)
  :gI P bj base LC g lb own loc mem w ay ev a o ao v u m':=fun hc hr=>by
 simp only[cV,Ξ]at hc;split at hc
 ·rename_i ds k x' hs hd hx;cases hc;simp only[aI,bD,aA]at hr;obtain⟨r,hr,rfl,rfl,rfl⟩:=hr;unfold lG at hr;split at hr
  ·rename_i he;cases hr;rename_i k' n hk;cases hk;have k1:=aq _ _ hx;rw[he]at k1;cases bG:a.eval x<;>rw[bG]at k1<;>cases k1;exact .pure hm hl ho (by simp only[execOp,Ξ,bG,Sem.run_bind,convert,run_underlying hs,run_underlying hd,Result.andThen_ok];rfl) (.int _ _ _)
  ·rename_i h _;cases h
  ·rename_i h _;cases h
  ·cases hr
 ·rename_i x' hs hd hx;cases hc;simp only[aI,bD,aA]at hr;obtain⟨r,hr,rfl,rfl,rfl⟩:=hr;unfold lG at hr;split at hr
  ·rename_i h _;cases h
  ·rename_i he;cases hr;have k1:=aq _ _ hx;rw[he]at k1;cases bG:a.eval x<;>rw[bG]at k1<;>cases k1;rename_i hb;exact .pure hm hl ho (by simp only[execOp,Ξ,bG,Sem.run_bind,convert,run_underlying hs,run_underlying hd,Result.andThen_ok];rfl) (.str _ _ _ hb)
  ·rename_i h _;cases h
  ·cases hr
 ·rename_i k x' hs hd hx;cases hc;simp only[aI,bD,aA]at hr;obtain⟨r,hr,rfl,rfl,rfl⟩:=hr;unfold lG at hr;split at hr
  ·rename_i h _;cases h
  ·rename_i h _;cases h
  ·rename_i he;cases hr;have k1:=aq _ _ hx;rw[he]at k1;cases bG:a.eval x<;>rw[bG]at k1<;>cases k1;exact .pure hm hl ho (by simp only[execOp,Ξ,bG,Sem.run_bind,convert,run_underlying hs,run_underlying hd,Result.andThen_ok];rfl) (.str _ _ _ rfl)
  ·cases hr
 ·cases hc
theorem ag_(aq:eU g lb ev a)(hm:bc g own LC mem w)(hl:cz g lb own loc w)(ho:bT base own w){t:TypeId}{x:Operand}(Ξ:o.op= .makeInterface t x)
  :gI P bj base LC g lb own loc mem w ay ev a o ao v u m':=fun hc hr=>by
 simp only[cV,Ξ]at hc;split at hc
 ·cases hc
 ·rename_i d x' hni hu hx;cases hc;simp only[aI,bh,aA]at hr;obtain⟨rfl,rfl,rfl⟩:=hr;refine .pure hm hl ho (x:= .iface t (a.eval x)) ?_ (.iface _ _ _ _ (aq _ _ hx));have acb:P.concrete t=true:=by unfold Program.concrete;rw[hu];cases d<;>first|rfl|exact absurd rfl (hni _)
  simp only[execOp,Ξ,Sem.run_bind,run_makeInterface w t _ acb,Result.andThen_ok];rfl
 ·cases hc
theorem ag9(aq:eU g lb ev a)(hm:bc g own LC mem w)(hl:cz g lb own loc w)(ho:bT base own w){f:Fn}{x y:Array Operand}(Ξ:o.op= .makeFunc f x y)
  :gI P bj base LC g lb own loc mem w ay ev a o ao v u m':=fun hc hr=>by
 cases f<;>simp only[cV,Ξ]at hc<;>first|(cases hc;done)|skip
 rename_i f;split at hc
 ·rename_i x' y' hx hy;cases hc;simp only[aI,bh,aA]at hr;obtain⟨rfl,rfl,rfl⟩:=hr;have k1:=Ga aq hx;have k2:=Ga aq hy;refine .pure hm hl ho (x:= .func (.func f) (x.map a.eval) (y.map a.eval)) (by simp only[execOp,Ξ];rfl) ?_;refine .fn _ _ _ _ _ _ _ (by simpa using k1.1.symm) (by simpa using k2.1.symm) rfl (fun i hi ae=>?_) (fun i hi ae=>?_)
  ·have:=k1.2 i hi (by simpa using ae);simpa using this
  ·have:=k2.2 i hi (by simpa using ae);simpa using this
 ·cases hc
theorem Yo{s f off:Nat}{t:TypeId}(h:JR P s f=some (off,t)):∃fields fd,P.underlying s=some (.struct fields)/\fields[f]?=some fd/\fd.offset=off/\fd.type=t:=by
 unfold JR at h;split at h
 ·rename_i fields hu;split at h
  ·rename_i fd hf;simp only[bh,aA]at h;exact⟨fields,fd,hu,hf,h.1,h.2⟩
  ·cases h
 ·cases h
theorem agZ(aq:eU g lb ev a)(hm:bc g own LC mem w)(hl:cz g lb own loc w)(ho:bT base own w){s:TypeId}{x:Operand}{f:Nat}(Ξ:o.op= .fieldAddr s x f)
  :gI P bj base LC g lb own loc mem w ay ev a o ao v u m':=fun hc hr=>by
 simp only[cV,Ξ]at hc;split at hc
 ·rename_i off t x' hf hx;split at hc
  ·rename_i n hn;cases hc;simp only[aI,bD,aA]at hr;obtain⟨r,hr,rfl,rfl,rfl⟩:=hr;obtain⟨ad,k1,k2⟩:=W4 (aq _ _ hx) hr;obtain⟨fields,fd,q1,q2,rfl,rfl⟩:=Yo hf;obtain⟨s1,s2,-⟩:=pD (P:=P) (w:=w) hn;refine .pure hm hl ho ?_ k2;simp only[execOp,Ξ,k1,Sem.run_bind,Instr.fieldAt,run_underlying q1,Result.andThen_ok,q2,Instr.sureAddr,Sem.run_pure,fieldPlace,s1];rw[if_neg (by omega)];rfl
  ·cases hc
 ·cases hc
theorem ag0(aq:eU g lb ev a)(hm:bc g own LC mem w)(hl:cz g lb own loc w)(ho:bT base own w){s:TypeId}{x:Operand}{f:Nat}(Ξ:o.op= .field s x f)
  :gI P bj base LC g lb own loc mem w ay ev a o ao v u m':=fun hc hr=>by
 simp only[cV,Ξ]at hc;split at hc
 ·rename_i off t x' hf hx;split at hc
  ·rename_i n ag hn lM;cases hc;simp only[aI]at hr;split at hr
   ·rename_i l he;split at hr
    ·rename_i hle;simp only[bD,aA]at hr;obtain⟨r,hr,rfl,rfl,rfl⟩:=hr;have k1:=aq _ _ hx;rw[he]at k1;obtain⟨fields,fd,q1,q2,rfl,rfl⟩:=Yo hf;cases bG:a.eval x<;>rw[bG]at k1<;>(try cases k1;done);obtain⟨z,e1,e2⟩:=W6 (P:=P) (w:=w) k1 hle (JQ lM) (pD hn).1 hr;refine .pure hm hl ho ?_ e2;simp only[execOp,Ξ,bG,Sem.run_bind,Instr.field,run_underlying q1,Result.andThen_ok,q2,asAgg,Sem.run_pure,e1]
    ·cases hr
   ·cases hr
  ·cases hc
 ·cases hc
end
section
variable{P:Program}{base:Nat}{LC:eY}{g:Gh}{lb:LB}{own:OW}{loc:Nat->Option (Nat×θ)}{mem:Mem}{w:World}{bj:Nat->Bool}{ay:cx}
variable{ev:br->AV}{a:Act}{o:Oper}{ao:AO}{v:AV}{u:kL}{m':Mem}
theorem u3{k:IntKind}{n:Int}{x:Value}(h:VR g lb (.int k n) x):x= .int k n:=by cases h;rfl
theorem ag1(aq:eU g lb ev a)(hm:bc g own LC mem w)(hl:cz g lb own loc w)(ho:bT base own w){t:TypeId}{x i:Operand}(Ξ:o.op= .indexAddr t x i)
  :gI P bj base LC g lb own loc mem w ay ev a o ao v u m':=fun hc hr=>by
 simp only[cV,Ξ]at hc;split at hc
 ·rename_i e x' i' hu hx hi;simp only[bD]at hc;obtain⟨sz,aL,rfl⟩:=hc;simp only[aI]at hr;split at hr
  ·rename_i c l k n e1 e2;split at hr
   ·rename_i hb;split at hr
    ·rename_i el DE;split at hr
     ·rename_i MV;simp only[bh,aA]at hr;obtain⟨rfl,rfl,rfl⟩:=hr;have k1:=aq _ _ hx;have k2:=aq _ _ hi;rw[e1]at k1;rw[e2]at k2;obtain⟨s1,s2,-⟩:=pD (P:=P) (w:=w) aL;have φ:l≠[]:=by rintro rfl;simp at hb;omega
      cases bG:a.eval x<;>rw[bG]at k1<;>(try(cases k1;done));cases k1 with
      |iU=>exact absurd rfl φ
      |iw=>exact absurd rfl φ
      |list _ _ _ b off eT nn cap xs hn dQ eG D7 cC hv=>
       have ψ:n.toNat<l.length:=by omega
       have MU:l[n.toNat]=el:=by rw[dn ψ]at DE;exact Option.some.inj DE
       have ade:eT=sz:=by rw[<-D7 _ (c_ ψ),MU,MV]
       subst ade;refine .pure hm hl ho (x:= .pointer (some ⟨b,off+n.toNat*eT,none⟩)) ?_ ?_
       ·simp only[execOp,Ξ,bG,u3 k2,Sem.run_bind,Instr.indexAt,asIntOf,Sem.run_pure,Result.andThen_ok,run_underlying hu];rw[if_pos (by rw[<-hn];exact hb)];simp only[Sem.run_bind,s1,Result.andThen_ok,Sem.run_pure,Addr.add_mid]
       ·refine .ref _ _ b (off+n.toNat*eT) (fun j=>xs n.toNat j) (fun j hj=>?_) (fun j hj=>?_)
        ·have:=cC n.toNat (by omega) j (by omega);rwa[rz]
        ·have:=hv n.toNat ψ j (by rw[MU];exact hj);simpa only[MU]using this
     ·cases hr
    ·cases hr
   ·cases hr
  ·rename_i id off m cp k n e1 e2;split at hr
   ·rename_i hb;simp only[bh,aA]at hr;obtain⟨rfl,rfl,rfl⟩:=hr;have k1:=aq _ _ hx;have k2:=aq _ _ hi;rw[e1]at k1;rw[e2]at k2;obtain⟨s1,s2,-⟩:=pD (P:=P) (w:=w) aL;cases bG:a.eval x<;>rw[bG]at k1<;>(try(cases k1;done));cases k1 with
    |sl _ _ _ _ _ _ _ b hc _ aY=>
     refine .pure hm hl ho (x:= .pointer (some ⟨b,off+n.toNat*sz,none⟩)) ?_ (.μ _ _ _ b aY)
     simp only[execOp,Ξ,bG,u3 k2,Sem.run_bind,Instr.indexAt,asIntOf,Sem.run_pure,Result.andThen_ok,run_underlying hu];rw[if_pos hb];simp only[Sem.run_bind,s1,Result.andThen_ok,Sem.run_pure,Addr.add_mid]
   ·cases hr
  ·cases hr
 ·rename_i len e x' i' hu hx hi;simp only[bD]at hc;obtain⟨sz,aL,rfl⟩:=hc;simp only[aI]at hr;split at hr
  ·rename_i k n e2;split at hr
   ·rename_i hb;simp only[bD,aA]at hr;obtain⟨r,hr,rfl,rfl,rfl⟩:=hr;have k2:=aq _ _ hi;rw[e2]at k2;obtain⟨ad,k1,k3⟩:=W4 (aq _ _ hx) hr;obtain⟨s1,s2,-⟩:=pD (P:=P) (w:=w) aL;refine .pure hm hl ho ?_ k3;simp only[execOp,Ξ,k1,u3 k2,Sem.run_bind,Instr.indexAt,asIntOf,Sem.run_pure,Result.andThen_ok,run_underlying hu,Instr.sureAddr];rw[if_pos hb];simp only[Sem.run_bind,s1,Result.andThen_ok,Sem.run_pure]
   ·cases hr
  ·cases hr
 ·cases hc
theorem ag4(aq:eU g lb ev a)(hm:bc g own LC mem w)(hl:cz g lb own loc w)(ho:bT base own w){t:TypeId}{x i:Operand}(Ξ:o.op= .index t x i)
  :gI P bj base LC g lb own loc mem w ay ev a o ao v u m':=fun hc hr=>by
 simp only[cV,Ξ]at hc;split at hc
 ·rename_i len e x' i' hu hx hi;split at hc
  ·rename_i sz ag aL lM;cases hc;simp only[aI]at hr;split at hr
   ·rename_i l k n e1 e2;split at hr
    ·rename_i hb;obtain⟨dy,dz,s9⟩:=hb;simp only[bD,aA]at hr;obtain⟨r,hr,rfl,rfl,rfl⟩:=hr;have k1:=aq _ _ hx;have k2:=aq _ _ hi;rw[e1]at k1;rw[e2]at k2;obtain⟨s1,s2,-⟩:=pD (P:=P) (w:=w) aL;cases bG:a.eval x<;>rw[bG]at k1<;>(try(cases k1;done));have hle:n.toNat*sz+sz<=l.length:=by rw[s9];have:(n.toNat+1)*sz<=len*sz:=mD _ (by omega);rw[kK]at this;omega
     obtain⟨z,q1,q2⟩:=W6 (P:=P) (w:=w) k1 hle (JQ lM) s1 hr;refine .pure hm hl ho ?_ q2;simp only[execOp,Ξ,bG,u3 k2,Sem.run_bind,Instr.index,asIntOf,Sem.run_pure,Result.andThen_ok,run_underlying hu];rw[if_pos ⟨dy,dz⟩];simp only[Sem.run_bind,s1,Result.andThen_ok,q1]
    ·cases hr
   ·cases hr
  ·cases hc
 ·rename_i x' i' hu hx hi;cases hc;simp only[aI]at hr;split at hr
  ·rename_i s k n e1 e2;split at hr
   ·rename_i hb;simp only[bD,aA]at hr;obtain⟨r,hr,rfl,rfl,rfl⟩:=hr;have k1:=aq _ _ hx;have k2:=aq _ _ hi;rw[e1]at k1;rw[e2]at k2;cases bG:a.eval x<;>rw[bG]at k1<;>cases k1;rename_i bs fM;obtain⟨c,hgb,oX⟩:∃c:UInt8,bs[n.toNat]?=some c/\c.toNat=r:=by
     rw[<-fM]at hr;simp only[lB,bD]at hr;obtain⟨c,hc,rfl⟩:=hr;have ψ:=(fB.1 hc).1;have eQ:n.toNat<bs.size:=by simpa using ψ
     refine⟨c,?_,rfl⟩;have h1:bs[n.toNat]?=some (bs[n.toNat]'eQ):=by simp[getElem?_pos,eQ]
     rw[h1];have h2:bs.data.toList[n.toNat]?=some (bs[n.toNat]'eQ):=by rw[dn ψ];rfl
     rw[h2]at hc;exact hc
    refine .pure hm hl ho (x:= .int .u8 (Int.ofNat r)) ?_ (.int _ _ _);simp only[execOp,Ξ,bG,u3 k2,Sem.run_bind,Instr.index,asIntOf,Sem.run_pure,Result.andThen_ok,run_underlying hu,if_pos hb,hgb,oX];rfl
   ·cases hr
  ·cases hr
 ·cases hc
theorem yz(aq:eU g lb ev a){x:Option Operand}{x':Option br}(h:ud x=some x'){top F5 r:Nat}(hb:bound ev top x' F5=some r):
  (x=none/\r=F5)\/(∃y k n,x=some y/\a.eval y= .int k n/\0<=n/\n<=top/\r=n.toNat):=by
 cases x with
 |none=>cases h;cases hb;exact .inl ⟨rfl,rfl⟩
 |some y=>
  simp only[ud,bD]at h
  obtain⟨y',hy,rfl⟩:=h;simp only[bound]at hb;split at hb
  ·rename_i k n he;split at hb
   ·rename_i hc;cases hb;have:=aq _ _ hy;rw[he]at this;exact .inr ⟨y,k,n,rfl,u3 this,hc.1,hc.2,rfl⟩
   ·cases hb
  ·cases hb
theorem run_sliceBound{k:IntKind}{n:Int}{top:Nat}{code:BoundsCode}(h0:0<=n)(h1:n<=top):(Instr.sliceBound (.int k n) top code).run P w= .ok n.toNat w:=by simp only[Instr.sliceBound,asIntOf,Sem.run_bind,Sem.run_pure,Result.andThen_ok];rw[if_pos ⟨h0,h1⟩];rfl
theorem ahg(aq:eU g lb ev a)(hm:bc g own LC mem w)(hl:cz g lb own loc w)(ho:bT base own w){t:TypeId}{x:Operand}{lo hi mx:Option Operand}(Ξ:o.op= .slice t x lo hi mx)
  :gI P bj base LC g lb own loc mem w ay ev a o ao v u m':=fun hc hr=>by
 simp only[cV,Ξ]at hc;split at hc
 ·rename_i e x' Wo ae OY hu hx jN xo jO;split at hc
  ·cases hc
  ·rename_i U2;simp only[bD]at hc;obtain⟨sz,aL,rfl⟩:=hc;obtain⟨s1,s2,-⟩:=pD (P:=P) (w:=w) aL;simp only[aI]at hr;split at hr
   ·rename_i c l he;split at hr
    ·rename_i jX;simp only[dO,decide_eq_true_eq]at jX;split at hr
     ·rename_i m HW;split at hr
      ·rename_i h Ds;split at hr
       ·rename_i b eC;simp only[bh,aA]at hr;obtain⟨rfl,rfl,rfl⟩:=hr;have k1:=aq _ _ hx;rw[he]at k1;have q1:=yz aq jO HW;have q2:=yz aq xo Ds;have q3:=yz aq jN eC;have vL:m<=l.length:=by rcases q1 with⟨_,h⟩|⟨_,_,n,_,_,_,h,h'⟩<;>omega
        have hhm:h<=m:=by
         rcases q2 with⟨hh,h⟩|⟨_,_,n,_,_,_,h,h'⟩
         ·rcases q1 with⟨_,h1⟩|⟨y,_,_,hy,_⟩
          ·omega
          ·exfalso;subst hh;subst hy;simp only[ud,bD]at jO xo;obtain⟨_,_,rfl⟩:=jO;cases xo;exact U2 rfl
         ·omega
        have Ur:b<=h:=by rcases q3 with⟨_,h⟩|⟨_,_,n,_,_,_,h,h'⟩<;>omega
        obtain⟨A,cap,bG,dQ,ab8,aco⟩:∃A cap,a.eval x= .slice A l.length cap/\l.length<=cap/\(c= .full->cap=l.length)∧
          (l=[]\/∃bb oo vs,A=some ⟨bb,oo,none⟩/\FR g bV sz l vs/\∀q v,vs[q]?=some v->g.im bb (oo+q)=some v):=by
         by_cases hle:l=[]
         ·subst hle;generalize a.eval x=xv at k1;cases k1 with
          |iU=>exact⟨none,0,rfl,bS _,fun _=>rfl,.inl rfl⟩
          |iw _ _ ad cap hc=>
           refine⟨_,cap,rfl,tY _,fun h=>?_,.inl rfl⟩
           rcases hc with hc|⟨_,hc⟩
           ·rw[hc]at h;cases h
           ·exact hc
          |list _ _ _ bb oo eT nn cap xs hn dQ eG=>simp at hn;subst hn;exact⟨_,cap,rfl,dQ,fun h=>(by subst h;exact eG),.inl rfl⟩
         ·obtain⟨bb,oo,cap,vs,f1,f2,f3,f4,f5⟩:=k1.flat jX hle;exact⟨_,cap,f1,f2,fun h=>(by subst h;exact f3),.inr ⟨bb,oo,vs,rfl,f4,f5⟩⟩
        have ab4:∃M,(Instr.sliceBounds true l.length cap (lo.map a.eval) (hi.map a.eval) (mx.map a.eval)).run P w= .ok (b,h,M) w/\h<=M/\(mx.isSome=true->M=m)/\(mx=none->M=cap):=by
         rcases q1 with⟨rfl,NB⟩|⟨ym,km,nm,rfl,Vx,UZ,NB,U0⟩
         ·refine⟨cap,?_,by omega,fun h=>(by cases h),fun _=>rfl⟩;rcases q2 with⟨rfl,ot⟩|⟨yh,kh,nh,rfl,tz,vD,ot,uq⟩
          ·rcases q3 with⟨rfl,dy⟩|⟨yb,kb,nb,rfl,qY,gL,dy,dz⟩
           ·subst dy ot;simp[Instr.sliceBounds]
           ·subst dz ot;simp[Instr.sliceBounds,qY,run_sliceBound gL dy]
          ·have hb:(Instr.sliceBound (.int kh nh) cap .sliceAcap).run P w= .ok nh.toNat w:=run_sliceBound vD (by omega);rcases q3 with⟨rfl,dy⟩|⟨yb,kb,nb,rfl,qY,gL,dy,dz⟩
           ·subst dy uq;simp[Instr.sliceBounds,tz,hb]
           ·subst dz uq;simp[Instr.sliceBounds,tz,qY,hb,run_sliceBound gL dy]
         ·have Uw:(Instr.sliceBound (.int km nm) cap .slice3Acap).run P w= .ok m w:=by rw[U0];exact run_sliceBound UZ (by omega)
          refine⟨m,?_,hhm,fun _=>rfl,fun h=>(by cases h)⟩;rcases q2 with⟨rfl,ot⟩|⟨yh,kh,nh,rfl,tz,vD,ot,uq⟩
          ·exfalso;simp only[ud,bD]at jO xo;obtain⟨_,_,rfl⟩:=jO;cases xo;exact U2 rfl
          ·have Ut:(Instr.sliceBound (.int kh nh) m .slice3B).run P w= .ok h w:=by rw[uq];exact run_sliceBound vD ot
           rcases q3 with⟨rfl,dy⟩|⟨yb,kb,nb,rfl,qY,gL,dy,dz⟩
           ·subst dy;simp[Instr.sliceBounds,Vx,tz,Uw,Ut]
           ·have:(Instr.sliceBound (.int kb nb) h .slice3C).run P w= .ok b w:=by rw[dz];exact run_sliceBound gL dy
            simp[Instr.sliceBounds,Vx,tz,qY,Uw,Ut,this]
        obtain⟨M,qU,hhM,HS,Dl⟩:=ab4;have dZ:(execOp a.eval o).run P w= .ok (.value (.slice (if M=b then A else A.map (·.add (b*sz))) (h-b) (M-b))) w:=by simp only[execOp,Ξ,bG,Instr.sliceAt,Instr.slice,Sem.run_bind,run_underlying hu,Result.andThen_ok,qU,s1,Sem.run_pure]
        refine .pure hm hl ho dZ ?_;have hlen:((l.take h).drop b).length=h-b:=by simp;omega
        have HY:∀bb oo,nu g (h-b) bb oo (M-b) (if OY.isSome=true then(if m=h then ρ.full else .any)else if c= .full/\h=l.length then .full else .any):=by
         intro bb oo;split
         ·rename_i hs;have tu:mx.isSome=true:=by
           cases mx with
           |none=>cases jO;cases hs
           |some _=>rfl
          split
          ·have:=HS tu;simp only[nu];omega
          ·trivial
         ·rename_i hs;have tu:mx=none:=by
           cases mx with
           |none=>rfl
           |some _=>simp only[ud,bD]at jO;obtain⟨_,_,rfl⟩:=jO;exact absurd rfl hs
          split
          ·rename_i hf;have:=Dl tu;have:=ab8 hf.1;simp only[nu];omega
          ·trivial
        have acS:∀tg,(if OY.isSome=true then(if m=h then ρ.full else .any)else if c= .full/\h=l.length then .full else .any)≠ .own tg:=by intro tg;(repeat' split)<;>simp
        have mR:∀A',A=some A'->c≠ .nil:=by
         intro A' Mv hc;subst Mv hc;rw[bG]at k1;cases k1 with
         |iw _ _ ad cap hc=>rcases hc with hc|⟨hc,_⟩<;>cases hc
         |list _ _ _ bb oo eT nn gq xs hn ab6 eG=>exact eG
        rcases aco with rfl|⟨bb,oo,vs,rfl,dK,cC⟩
        ·have gL:b=0:=by simp at vL;omega
         have vD:h=0:=by simp at vL;omega
         subst gL vD;simp only[List.take_nil,List.drop_nil,alx,Nat.sub_zero];have hA:(if M=0 then A else A.map (·.add 0))=A:=by
          split
          ·rfl
          ·cases A<;>simp[Addr.add]
         rw[hA];cases Ed:A with
         |none=>
          rw[bG,Ed]at k1
          have hMc:M=0:=by
           cases k1 with
           |iU=>
            cases mx with
            |none=>exact Dl rfl
            |some _=>have:=HS rfl;simp at vL;omega
          subst hMc;have aca:c= .nil:=by cases k1;rfl
          rw[if_pos aca];exact .iU _
         |some A'=>
          have ab':=mR A' Ed
          rw[if_neg ab'];rw[bG,Ed]at k1;cases k1 with
          |iw _ _ ad cap hc=>
           refine .iw _ _ _ _ ?_
           have hq:=HY 0 0;have U9:=acS;generalize(if OY.isSome=true then(if m=0 then ρ.full else .any)else if c= .full/\0=([]:List AV).length then .full else .any)=cc at hq U9⊢;cases cc with
           |any=>exact .inl rfl
           |nil=>exact hq.elim
           |own tg=>exact absurd rfl (U9 tg)
           |full=>exact .inr ⟨rfl,by simpa[nu]using hq⟩
          |list _ _ _ bb oo eT nn gq xs hn ab6 eG=>exact .list _ _ [] bb oo sz 0 _ (fun _ _=>undef) rfl (tY _) (by have:=HY bb oo;simpa using this) (by simp) (fun i hi=>by omega) (fun i hi=>by simp at hi)
        ·rw[if_neg (mR _ rfl)];by_cases Us:h-b=0
         ·have r8:(l.take h).drop b=[]:=List.eq_nil_of_length_eq_zero (by omega);rw[r8,Us];have hA:∃o2,(if M=b then some (⟨bb,oo,none⟩:Addr)else(some (⟨bb,oo,none⟩:Addr)).map (·.add (b*sz)))=some ⟨bb,o2,none⟩:=by
           split
           ·exact⟨_,rfl⟩
           ·exact⟨oo+b*sz,by simp[Addr.add_mid]⟩
          obtain⟨o2,hA⟩:=hA;rw[hA];exact .list _ _ [] bb o2 sz 0 _ (fun _ _=>undef) rfl (tY _) (by have:=HY bb o2;rwa[Us]at this) (by simp) (fun i hi=>by omega) (fun i hi=>by simp at hi)
         ·have hMb:¬M=b:=by omega
          simp only[if_neg hMb,qx,Addr.add_mid];have acs:FR g bV sz ((l.take h).drop b) ((vs.take (h*sz)).drop (b*sz)):=by
           have Iw:=dK.1;have hle:h*sz<=l.length*sz:=mD _ (by omega);have hbz:b*sz<=h*sz:=mD _ Ur;refine⟨?_,fun e he=>dK.2.1 e (qt (tW he)),fun v hv=>dK.2.2.1 v (qt (tW hv)),fun i hi j hj o7=>?_⟩
           ·rw[hlen,Nat.sub_mul];simp;omega
           ·have ae:b+i<l.length:=by rw[hlen]at hi;omega
            have H3:((l.take h).drop b)[i]=l[b+i]:=by simp
            have dL:j<l[b+i].cells.length:=by rw[<-H3];exact hj
            have vE:j<sz:=by rw[<-dK.2.1 _ (c_ ae)];exact dL
            have Nd:b*sz+(i*sz+j)=(b+i)*sz+j:=by rw[kK];omega
            have:=dK.2.2.2 (b+i) ae j dL (by rw[Iw];exact Ej ae vE);simp only[yg,Cs,Nd];simpa only[H3]using this
          refine VR.Jg acs hlen (by omega) (HY _ _) (fun q v hq=>?_);have vP:vs[b*sz+q]?=some v:=by
           rw[alr]at hq;rw[Ar]at hq;split at hq
           ·exact hq
           ·cases hq
          have:=cC _ _ vP;rwa[<-rz]at this
       ·cases hr
      ·cases hr
     ·cases hr
    ·cases hr
   ·rename_i kd id off n cap he;split at hr
    ·cases hr
    have acO:mx=none:=by
     cases mx with
     |none=>rfl
     |some _=>simp only[ud,bD]at jO;obtain⟨_,_,h⟩:=jO;cases h
    subst acO;split at hr
    ·rename_i h Ds;split at hr
     ·rename_i b eC;split at hr
      ·rename_i Ux;simp only[bh,aA]at hr;obtain⟨rfl,rfl,rfl⟩:=hr;have k1:=aq _ _ hx;rw[he]at k1;have q2:=yz aq xo Ds;have q3:=yz aq jN eC;obtain⟨bb,gq,bG,hid,dQ,eG⟩:∃bb gq,a.eval x= .slice (some ⟨bb,off,none⟩) n gq/\g.mb id=some bb/\n<=cap/\cap<=gq:=by
        generalize a.eval x=xv at k1;cases k1 with
        |sl _ _ _ _ _ _ cq bb mS yW aY=>exact⟨bb,cq,rfl,aY,mS,yW⟩
       have hhn:h<=n:=by rcases q2 with⟨_,h⟩|⟨_,_,n,_,_,_,h,h'⟩<;>omega
       have Ur:b<=h:=by rcases q3 with⟨_,h⟩|⟨_,_,n,_,_,_,h,h'⟩<;>omega
       have qU:(Instr.sliceBounds true n gq (lo.map a.eval) (hi.map a.eval) none).run P w= .ok (b,h,gq) w:=by
        rcases q2 with⟨rfl,ot⟩|⟨yh,kh,nh,rfl,tz,vD,ot,uq⟩
        ·rcases q3 with⟨rfl,dy⟩|⟨yb,kb,nb,rfl,qY,gL,dy,dz⟩
         ·subst dy ot;simp[Instr.sliceBounds]
         ·subst dz ot;simp[Instr.sliceBounds,qY,run_sliceBound gL dy]
        ·have hb:(Instr.sliceBound (.int kh nh) gq .sliceAcap).run P w= .ok nh.toNat w:=run_sliceBound vD (by omega);rcases q3 with⟨rfl,dy⟩|⟨yb,kb,nb,rfl,qY,gL,dy,dz⟩
         ·subst dy uq;simp[Instr.sliceBounds,tz,hb]
         ·subst dz uq;simp[Instr.sliceBounds,tz,qY,hb,run_sliceBound gL dy]
       have hA:(if gq=b then some (⟨bb,off,none⟩:Addr)else(some (⟨bb,off,none⟩:Addr)).map (·.add (b*sz)))=some ⟨bb,off+b*sz,none⟩:=by
        split
        ·have:b=0:=by omega
         subst this;simp
        ·simp[Addr.add_mid]
       have dZ:(execOp a.eval o).run P w= .ok (.value (.slice (some ⟨bb,off+b*sz,none⟩) (h-b) (gq-b))) w:=by rw[<-hA];simp only[execOp,Ξ,bG,Instr.sliceAt,Instr.slice,Sem.run_bind,run_underlying hu,Result.andThen_ok,alB,qU,s1,Sem.run_pure]
       exact .pure hm hl ho dZ (.sl _ _ _ _ _ _ _ _ (by omega) (by omega) hid)
      ·cases hr
     ·cases hr
    ·cases hr
   ·cases hr
 ·rename_i x' Wo ae hu hx jN xo jO;cases hc;have U5:mx=none:=by
   cases mx with
   |none=>rfl
   |some _=>simp only[ud,bD]at jO;obtain⟨_,_,h⟩:=jO;cases h
  subst U5;simp only[aI]at hr;split at hr
  ·rename_i s he;split at hr
   ·rename_i h Ds;split at hr
    ·rename_i b eC;simp only[bh,aA]at hr;obtain⟨rfl,rfl,rfl⟩:=hr;have k1:=aq _ _ hx;rw[he]at k1;have q2:=yz aq xo Ds;have q3:=yz aq jN eC;cases bG:a.eval x<;>rw[bG]at k1<;>cases k1;rename_i bs fM;have jZ:=E9 fM;have qU:(Instr.sliceBounds false bs.size bs.size (lo.map a.eval) (hi.map a.eval) none).run P w= .ok (b,h,bs.size) w:=by
      rcases q2 with⟨rfl,ot⟩|⟨yh,kh,nh,rfl,tz,vD,ot,uq⟩
      ·rcases q3 with⟨rfl,dy⟩|⟨yb,kb,nb,rfl,qY,gL,dy,dz⟩
       ·subst dy ot;simp[Instr.sliceBounds,jZ]
       ·subst dz ot;simp[Instr.sliceBounds,qY,run_sliceBound gL dy,jZ]
      ·rw[<-jZ]at ot;have aY:(Instr.sliceBound (.int kh nh) bs.size .sliceAlen).run P w= .ok nh.toNat w:=run_sliceBound vD ot;rcases q3 with⟨rfl,dy⟩|⟨yb,kb,nb,rfl,qY,gL,dy,dz⟩
       ·subst dy uq;simp[Instr.sliceBounds,tz,aY]
       ·subst dz uq;simp[Instr.sliceBounds,tz,qY,aY,run_sliceBound gL dy]
     refine .pure hm hl ho (x:= .string (bs.extract b h)) ?_ (.str _ _ _ ?_)
     ·simp only[execOp,Ξ,bG,Instr.sliceAt,Instr.slice,Sem.run_bind,run_underlying hu,Result.andThen_ok,alB,alw,jV,if_false,qU,Sem.run_pure]
     ·rw[<-fM,<-List.map_take,<-List.map_drop];congr 1;simp[ByteArray.data_extract,aly,Qe,Aq]
    ·cases hr
   ·cases hr
  ·cases hr
 ·cases hc
theorem agY(aq:eU g lb ev a)(hm:bc g own LC mem w)(hl:cz g lb own loc w)(ho:bT base own w){x:Operand}{k:Nat}(Ξ:o.op= .extract x k)
  :gI P bj base LC g lb own loc mem w ay ev a o ao v u m':=fun hc hr=>by
 simp only[cV,Ξ,bD]at hc;obtain⟨x',hx,rfl⟩:=hc;simp only[aI]at hr;split at hr
 ·rename_i l he;simp only[bD,aA]at hr;obtain⟨r,hr,rfl,rfl,rfl⟩:=hr;have k1:=aq _ _ hx;rw[he]at k1;obtain⟨ψ,rfl⟩:=fB.1 hr;obtain⟨xv,bG⟩:∃xv,a.eval x=xv:=⟨_,rfl⟩;rw[bG]at k1;cases k1 with
  |aQ _ _ b hs hv=>
   have hk:k<b.size:=by omega
   refine .pure hm hl ho ?_ (hv k ψ hk);simp only[execOp,Ξ,bG,Instr.extract,wz hk];rfl
 ·cases hr
theorem agN(hm:bc g own LC mem w)(hl:cz g lb own loc w)(ho:bT base own w){e:TypeId}(Ξ:o.op= .alloc e)
  :gI P bj base LC g lb own loc mem w ay ev a o ao v u m':=fun hc hr=>by
 simp only[cV,Ξ]at hc;split at hc
 ·rename_i d z hd hz;obtain⟨zv,i,hi,gu,iI,kT,uD,h0,cO,h1⟩:=Ai (P:=P) (g:=g) (lb:=lb) (w:=w) hz;split at hc
  ·rename_i be kC;cases hc;simp only[aI,bh,aA]at hr;obtain⟨rfl,rfl,rfl⟩:=hr;have hb:P1 P e=some be:=by
    split at kC
    ·exact kC
    ·cases kC
   have zw:zv= .agg #[.pointer none,.slice none 0 0]:=by
    unfold P1 at hb;rw[hi]at hb;simp only[gu]at hb;split at hb
    ·rename_i h2 _;cases h2;rfl
    ·cases hb
   subst zw;exact⟨_,_,.inl (by simp only[execOp,Ξ,Instr.alloc,Sem.run_bind,iI,Result.andThen_ok,Sem.run_pure];rfl),agt hm hl ho⟩
  cases hc;simp only[aI]at hr;refine⟨_,_,.inl ?_,O4 (e:=e) hm hl ho (cs:=zv.cells) (by rw[kT,uD]) (fun j hj dL=>by have:=cO.2 j hj (by simpa using dL);rwa[mz]at this)
   (fun j hj=>h1 _ (by simp)) hr⟩
  simp only[execOp,Ξ,Instr.alloc,Sem.run_bind,iI,Result.andThen_ok,Sem.run_pure];rfl
 ·cases hc
theorem agR(aq:eU g lb ev a)(hm:bc g own LC mem w)(hl:cz g lb own loc w)(ho:bT base own w){e:TypeId}{x:Operand}(Ξ:o.op= .box e x)
  :gI P bj base LC g lb own loc mem w ay ev a o ao v u m':=fun hc hr=>by
 simp only[cV,Ξ]at hc;split at hc
 ·rename_i d n x' hd hn hx;cases hc;simp only[aI]at hr;split at hr
  ·rename_i hlen;obtain⟨s1,s2,-⟩:=pD (P:=P) (w:=w) hn;obtain⟨cO,h1⟩:=Jt (aq _ _ hx) (by omega);refine⟨_,_,.inl ?_,O4 (e:=e) hm hl ho (cs:=(a.eval x).cells) (by simpa using cO.1.symm) (fun j hj dL=>by have:=cO.2 j hj (by simpa using dL);rwa[mz]at this)
    (fun j hj=>h1 _ (by simp)) hr⟩
   simp only[execOp,Ξ,Instr.box,Sem.run_bind,Result.andThen_ok,Go.newVar,newRow,run_newObj,Sem.run_pure];rfl
  ·cases hr
 ·cases hc
theorem ag5(aq:eU g lb ev a)(hm:bc g own LC mem w)(hl:cz g lb own loc w)(ho:bT base own w){t:TypeId}{x:Operand}(Ξ:o.op= .load t x)
  :gI P bj base LC g lb own loc mem w ay ev a o ao v u m':=fun hc hr=>by
 simp only[cV,Ξ]at hc;split at hc
 ·rename_i ag n x' lM hn hx;cases hc;simp only[aI]at hr;split at hr
  ·rename_i cs oz;simp only[bD,aA]at hr;obtain⟨r,hr,rfl,rfl,rfl⟩:=hr;obtain⟨b,off,vs,e1,e2,e3,e4,e5,e6⟩:=XC hm hl (aq _ _ hx) oz;obtain⟨s1,s2,s3⟩:=pD (P:=P) (w:=w) hn;have Dp:=JQ (w:=w) lM;obtain⟨k1,k2⟩:=Kr (a:=vs.toArray) (g:=g) (lb:=lb) ⟨by simp;omega,fun i hi ae=>e5 i hi (by simpa using ae)⟩ (by simpa using e6) hr;have nC:∀j v,vs[j]?=some v->w.cell? ((⟨b,off,none⟩:Addr).add j)=some v:=fun j v hj=>by rw[Addr.add_mid];exact e4 j v hj
   cases ag with
   |true=>
    refine .pure hm hl ho ?_ (k1 rfl)
    have Bw:=run_loadCells_list (P:=P) w ⟨b,off,none⟩ vs nC;simp only[execOp,Ξ,e1,Instr.loadAt,Instr.sureAddr,Sem.run_bind,Sem.run_pure,Result.andThen_ok,loadVar,Dp,if_true,s1];rw[<-e2];simp only[Bw,Result.andThen_ok]
   |false=>
    obtain⟨z,hz,xE⟩:=k2 rfl
    have BE:vs=[z]:=by simpa using hz
    subst BE;have h0:w.cell? ⟨b,off,none⟩=some z:=by simpa using e4 0 z (by simp)
    refine .pure hm hl ho ?_ xE;simp only[execOp,Ξ,e1,Instr.loadAt,Instr.sureAddr,Sem.run_bind,Sem.run_pure,Result.andThen_ok,loadVar,Dp,jV,if_false,run_load,h0]
  ·cases hr
 ·cases hc
theorem ahi(aq:eU g lb ev a)(hm:bc g own LC mem w)(hl:cz g lb own loc w)(ho:bT base own w){t:TypeId}{x y:Operand}(Ξ:o.op= .store t x y)
  :gI P bj base LC g lb own loc mem w ay ev a o ao v u m':=fun hc hr=>by
 simp only[cV,Ξ]at hc;split at hc
 ·rename_i n x' y' hn hx hy;cases hc;simp only[aI]at hr;split at hr
  ·rename_i hlen;simp only[bD,aA,Prod.exists]at hr;obtain⟨u1,m1,hw,rfl,rfl,rfl⟩:=hr;obtain⟨s1,s2,-⟩:=pD (P:=P) (w:=w) hn;obtain⟨cO,h1⟩:=Jt (aq _ _ hy) (by omega);obtain⟨b,off,cur,e,e1,e2,e3,e4⟩:=P6 hm hl ho (aq _ _ hx) cO h1 hw;refine⟨undef,_,.inr ⟨?_,rfl⟩,e4⟩;have aL:(a.eval y).cells.size=n:=by have:=cO.1;simp at this;omega
   have Ω:=run_storeCells_at P b off e (a.eval y).cells.toList 0 cur w e2 (by simpa using e3) h1;simp only[execOp,Ξ,e1,Instr.storeAt,Instr.sureAddr,Sem.run_bind,Sem.run_pure,Result.andThen_ok,storeVar,s1,aL];rw[if_neg (by simp)];simp only[Ω,Result.andThen_ok,qu];rfl
  ·cases hr
 ·cases hc
end
section
variable{P:Program}{base:Nat}{LC:eY}{g:Gh}{lb:LB}{own:OW}{loc:Nat->Option (Nat×θ)}{mem:Mem}{w:World}{bj:Nat->Bool}{ay:cx}
variable{ev:br->AV}{a:Act}{o:Oper}{ao:AO}{v:AV}{u:kL}{m':Mem}
theorem Ta(sz:Nat):∀(parts:List (Nat×Operand)) (k:Nat) (xs:List Operand) (cs:Array Value),F4 k parts=some xs->(∀x∈xs,(a.eval x).cells.size=sz)->(k+xs.length)*sz<=cs.size→
  ∃ws:Array Value,Instr.fill (fun i=>some (i*sz,sz)) cs (parts.map fun(i,x)=>(i,a.eval x))=some ws∧
   ws.toList=cs.toList.take (k*sz)++(xs.map fun x=>(a.eval x).cells.toList).flatten++cs.toList.drop ((k+xs.length)*sz)
 |[],k,xs,cs,h,_,_=>by cases h;exact⟨cs,rfl,by simp⟩
 |(i,x)::parts,k,xs,cs,h,hs,hle=>by
  simp only[F4]at h;split at h
  ·rename_i uu;subst uu;simp only[bD]at h;obtain⟨ys,hy,rfl⟩:=h;have hx:(a.eval x).cells.size=sz:=hs x (by simp);simp only[cD]at hle;have UU:i*sz+sz<=cs.size:=by have:(i+1)*sz<=(i+(ys.length+1))*sz:=mD _ (by omega);rw[kK]at this;omega
   let tP:Array Value:=(a.eval x).cells.zipIdx.foldl (fun cs (c,j)=>cs.setIfInBounds (i*sz+j) c) cs;have D':tP.toList=cs.toList.take (i*sz)++(a.eval x).cells.toList++cs.toList.drop (i*sz+sz):=by have h:=L4 (i*sz) (a.eval x).cells.toList 0 cs (by simp only[wC,hx];omega);simp only[qu,wC,hx]at h;rw[<-h];simp only[tP,<-alz,alA]
   have D7:tP.size=cs.size:=by have:=congrArg List.length D';simp[hx]at this;omega
   have Ny:(i+1+ys.length)*sz<=tP.size:=by
    have:i+1+ys.length=i+(ys.length+1):=by omega
    rw[D7,this];exact hle
   obtain⟨ws,e1,e2⟩:=Ta sz parts (i+1) ys tP hy (fun y hy=>hs y (by simp[hy])) Ny;refine⟨ws,?_,?_⟩
   ·simp only[az,Instr.fill];rw[if_neg (by simp[hx];omega)];exact e1
   ·rw[e2,D'];have h1:(i+1)*sz=i*sz+sz:=by rw[kK,Nat.one_mul]
    have h2:(i+1+ys.length)*sz=i*sz+sz+ys.length*sz:=by rw[kK,h1]
    have h3:(i+(ys.length+1))*sz=i*sz+sz+ys.length*sz:=by rw[kK,kK,Nat.one_mul];omega
    have hl:(cs.toList.take (i*sz)++(a.eval x).cells.toList).length=i*sz+sz:=by simp[hx];omega
    rw[h1,h2];simp only[az,List.flatten_cons,cD,h3];rw[List.take_append_of_le_length (by rw[hl];exact bS _),fo (by rw[hl];exact bS _)];rw[List.drop_append,hl,alC (by rw[hl];omega)];simp[bO]
  ·cases h
theorem FR.flatten{sz:Nat}(h0:0<sz):∀(l:List AV) (m:List Value),PW (VR g lb) l m->(∀e∈l,e.cells.length=sz)->FR g lb sz l (m.map fun x=>x.cells.toList).flatten
 |[],[],_,_=>FR.nil sz
 |[],_::_,h,_=>by have:=h.1;simp at this
 |_::_,[],h,_=>by have:=h.1;simp at this
 |e::l,x::m,h,hs=>by have h1:=FR.one (g:=g) (lb:=lb) (h.2 0 (by simp) (by simp)) (hs e (by simp)) h0;have h2:=FR.flatten h0 l m ⟨by have:=h.1;simpa using this,fun i hi ae=>by have:=h.2 (i+1) (by simpa using hi) (by simpa using ae);simpa using this⟩ (fun e he=>hs e (by simp[he]));have:=h1.append h2;simpa using this
theorem agS(aq:eU g lb ev a)(hm:bc g own LC mem w)(hl:cz g lb own loc w)(ho:bT base own w){t:TypeId}{len:Nat}{parts:Array (Nat×Operand)}(Ξ:o.op= .buildSlice t len parts)
  :gI P bj base LC g lb own loc mem w ay ev a o ao v u m':=fun hc hr=>by
 simp only[cV,Ξ]at hc;split at hc
 ·rename_i e xs hu hd;split at hc
  ·rename_i sz ag z wv aL lM hz Vw;split at hc
   ·rename_i hlen;obtain⟨hlen,ak0⟩:=hlen;cases hc;simp only[aI]at hr;split at hr
    ·rename_i jX;simp only[bh,aA]at hr;obtain⟨rfl,rfl,rfl⟩:=hr;simp only[dO]at jX;obtain⟨s1,h0,s3⟩:=pD (P:=P) (w:=w) aL;obtain⟨zv,i,hi,gu,iI,kT,uD,th,-,-⟩:=Ai (P:=P) (g:=g) (lb:=lb) (w:=w) hz;have alb:i.size=sz:=by rw[hi]at s3;simpa using s3
     have cO:=Ga aq Vw;have ep:∀e∈wv.map ev,e.cells.length=sz:=fun e he=>by obtain⟨x,hx,rfl⟩:=eP.1 he;exact JF (jX x hx)
     have sk:xs.length=wv.length:=by have:=cO.1;simp at this;omega
     have UB:∀x∈xs,(a.eval x).cells.size=sz:=fun x hx=>by
      obtain⟨j,hj,rfl⟩:=pG.1 hx;have dL:j<wv.length:=by omega
      have xE:=cO.2 j (by simpa using dL) (by simpa using hj);simp only[ja]at xE;have hc:=ep (ev wv[j]) (eP.2 ⟨_,c_ dL,rfl⟩);have:=(Jt xE (by omega)).1.1;simp at this;omega
     let init:Array Value:=(alD (len*sz)).map (zv.cells[· % zv.cells.size]!);obtain⟨ws,e1,e2⟩:=Ta (a:=a) sz parts.toList 0 xs init hd UB (by simp[init,hlen]);have Ec:ws.toList=(xs.map fun x=>(a.eval x).cells.toList).flatten:=by rw[e2];have:init.toList.drop ((0+xs.length)*sz)=[]:=alC (by simp[init,hlen]);rw[this];simp
     have dK:FR g bV sz (wv.map fun x=>mem.ν (ev x)) ws.toList:=by rw[Ec];have h1:=(FR.flatten h0 (wv.map ev) (xs.map a.eval) cO ep).ν hm;simpa[cT,Function.comp_def]using h1
     have pd:=ajf (e:=e) hm hl ho dK;have acD:(wv.map fun x=>mem.ν (ev x)).length=len:=by simp;omega
     rw[acD]at pd;refine⟨_,_,.inl ?_,pd⟩;have zg:(parts.map fun(i,x)=>(i,a.eval x)).toList=parts.toList.map fun(i,x)=>(i,a.eval x):=by simp
     by_cases xt:len*sz=0
     ·have acy:init=(alD (len*sz)).map ((#[]:Array Value)[· % (#[]:Array Value).size]!):=by simp[init,xt]
      simp only[execOp,Ξ,Instr.buildSlice,Sem.run_bind,run_underlying hu,Result.andThen_ok,s1];rw[if_neg (by omega),if_pos xt];simp only[Sem.run_bind,Sem.run_pure,Result.andThen_ok,zg];rw[<-acy,e1];simp only[newRow,run_newObj,Sem.run_bind,Result.andThen_ok,Sem.run_pure];rfl
     ·simp only[execOp,Ξ,Instr.buildSlice,Sem.run_bind,run_underlying hu,Result.andThen_ok,s1];rw[if_neg (by omega),if_neg xt];simp only[Sem.run_bind,iI,Sem.run_pure,Result.andThen_ok,zg];have e1':Instr.fill (fun i=>some (i*sz,sz)) ((alD (len*sz)).map (zv.cells[· % zv.cells.size]!)) (parts.toList.map fun(i,x)=>(i,a.eval x))=some ws:=e1;rw[e1'];simp only[newRow,run_newObj,Sem.run_bind,Result.andThen_ok,Sem.run_pure];rfl
    ·cases hr
   ·cases hc
  ·cases hc
 ·cases hc
theorem WV(aq:eU g lb ev a)(hm:bc g own LC mem w)(hl:cz g lb own loc w)(ho:bT base own w){c:Call}(Ξ:o.op= .call c)(hb:c.callee= .builtin .max\/c.callee= .builtin .min)
  :gI P bj base LC g lb own loc mem w ay ev a o ao v u m':=fun hc hr=>by
 have key:∃x y x' y',c.args.toList=[x,y]/\cB x=some x'/\cB y=some y'/\((c.callee= .builtin .max/\ao= .max x' y')\/(c.callee= .builtin .min/\ao= .min x' y')):=by
  rcases hb with hb|hb<;>simp only[cV,Ξ,hb]at hc
  all_goals
   split at hc
   ·rename_i x y Ob;split at hc
    ·rename_i x' y' hx hy;cases hc;exact⟨x,y,x',y',Ob,hx,hy,by simp[hb]⟩
    ·cases hc
   ·cases hc
 obtain⟨x,y,x',y',Ob,hx,hy,od⟩:=key;have iG:(c.args.map a.eval)= #[a.eval x,a.eval y]:=by
  have:(c.args.map a.eval).toList=[a.eval x,a.eval y]:=by simp[Ob]
  rw[<-u7 (xs:=c.args.map a.eval),this]
 rcases od with⟨hb,rfl⟩|⟨hb,rfl⟩
 all_goals
  simp only[aI]at hr;split at hr
  ·rename_i k p k' q e1 e2;split at hr
   ·rename_i hk;subst hk;simp only[bh,aA]at hr;obtain⟨rfl,rfl,rfl⟩:=hr;have k1:=aq _ _ hx;have k2:=aq _ _ hy;rw[e1]at k1;rw[e2]at k2;refine .pure hm hl ho ?_ (.int _ _ _);simp only[execOp,Ξ,resolve,hb,iG,u3 k1,u3 k2,Sem.run_bind,Sem.run_pure,Result.andThen_ok,invoke,builtin,Builtin.max_,Builtin.min_];rfl
   ·cases hr
  ·cases hr
end
section
variable{P:Program}{base:Nat}{LC:eY}{g:Gh}{lb:LB}{own:OW}{loc:Nat->Option (Nat×θ)}{mem:Mem}{w:World}{bj:Nat->Bool}{ay:cx}
variable{ev:br->AV}{a:Act}{o:Oper}{ao:AO}{v:AV}{u:kL}{m':Mem}
theorem I9(hm:bc g own LC mem w){id:Nat}{es:List (AV×AV)}{x:Value}(hx:VR g lb (.map id) x)(hb:mem.ε[id]?=some (.map es)):
  ∃(b:Nat) (dt:Array MapEntry) (clock:Nat),x= .map (some b)/\g.mb id=some b/\own b=some (.m id)/\(∀o,g.im b o=none)/\w.heap[b]?=some (.map dt clock)/\dt.size=es.length∧
   (∀i (h:i<es.length) (h':i<dt.size),VR g bV es[i].1 dt[i].key/\VR g bV es[i].2 dt[i].val)/\∀p∈es,plain p.1=true/\plain p.2=true:=by
 cases hx with
 |map _ _ b h=>
  obtain⟨b',h1,h2,h3,dt,clock,h4,h5,h6,h7⟩:=hm.blk id _ hb
  rw[h]at h1;cases h1;exact⟨b,dt,clock,rfl,h,h2,h3,h4,h5,h6,h7⟩
theorem run_getObj_map{b:Nat}{dt:Array MapEntry}{clock:Nat}(h:w.heap[b]?=some (.map dt clock)):(getObj b).run P w= .ok (.map dt clock) w:=by simp only[getObj,Sem.run,h]
theorem ag6(aq:eU g lb ev a)(hm:bc g own LC mem w)(hl:cz g lb own loc w)(ho:bT base own w){c:Call}(Ξ:o.op= .call c)(hb:c.callee= .builtin .len)
  :gI P bj base LC g lb own loc mem w ay ev a o ao v u m':=fun hc hr=>by
 simp only[cV,Ξ,hb]at hc;split at hc
 ·rename_i x t iG tw;have oe:(c.args.map a.eval)= #[a.eval x]:=by
   have:(c.args.map a.eval).toList=[a.eval x]:=by simp[iG]
   rw[<-u7 (xs:=c.args.map a.eval),this]
  have qd:c.argTypes= #[t]:=by rw[<-u7 (xs:=c.argTypes),tw]
  have dZ:∀y w',(Builtin.len_ #[t] o.type #[a.eval x]).run P w= .ok y w'->(execOp a.eval o).run P w= .ok (.value y) w':=fun y w' h=>by simp only[execOp,Ξ,resolve,hb,oe,qd,Sem.run_bind,Sem.run_pure,Result.andThen_ok,invoke,builtin,h]
  split at hc
  ·rename_i x' hu hx;cases hc;have k1:=aq _ _ hx;obtain⟨xv,bG⟩:∃xv,a.eval x=xv:=⟨_,rfl⟩;rw[bG]at k1;simp only[aI]at hr;split at hr
   ·rename_i s e1;simp only[bh,aA]at hr;obtain⟨rfl,rfl,rfl⟩:=hr;rw[e1]at k1;cases k1 with
    |str _ bs _ fM=>
     refine .pure hm hl ho (dZ (.int .i64 bs.size) w ?_) (by rw[E9 fM];exact .int _ _ _)
     simp[bG,Builtin.len_,run_underlying hu,goInt]
   ·cases hr
  ·rename_i e x' hu hx;cases hc;have k1:=aq _ _ hx;obtain⟨xv,bG⟩:∃xv,a.eval x=xv:=⟨_,rfl⟩;rw[bG]at k1;simp only[aI]at hr;split at hr
   ·rename_i c' l e1;simp only[bh,aA]at hr;obtain⟨rfl,rfl,rfl⟩:=hr;rw[e1]at k1;have hs:∃A cap,xv= .slice A l.length cap:=by
     cases k1 with
     |iU=>exact⟨_,_,rfl⟩
     |iw=>exact⟨_,_,rfl⟩
     |list _ _ _ b o sz n cap xs hn=>subst hn;exact⟨_,_,rfl⟩
    obtain⟨A,cap,rfl⟩:=hs;refine .pure hm hl ho (dZ (.int .i64 l.length) w ?_) (.int _ _ _);simp[bG,Builtin.len_,run_underlying hu,goInt]
   ·rename_i id off n cp e1;simp only[bh,aA]at hr;obtain⟨rfl,rfl,rfl⟩:=hr;rw[e1]at k1;cases k1;refine .pure hm hl ho (dZ (.int .i64 n) w ?_) (.int _ _ _);simp[bG,Builtin.len_,run_underlying hu,goInt]
   ·cases hr
  ·rename_i k e x' hu hx;cases hc;have k1:=aq _ _ hx;obtain⟨xv,bG⟩:∃xv,a.eval x=xv:=⟨_,rfl⟩;rw[bG]at k1;simp only[aI]at hr;split at hr
   ·rename_i e1;simp only[bh,aA]at hr;obtain⟨rfl,rfl,rfl⟩:=hr;rw[e1]at k1;cases k1;refine .pure hm hl ho (dZ (.int .i64 0) w ?_) (.int _ _ _);simp[bG,Builtin.len_,run_underlying hu,goInt]
   ·rename_i id e1;split at hr
    ·rename_i es he;simp only[bh,aA]at hr;obtain⟨rfl,rfl,rfl⟩:=hr;rw[e1]at k1;obtain⟨b,dt,clock,rfl,-,-,-,h4,h5,-⟩:=I9 hm k1 he;refine .pure hm hl ho (dZ (.int .i64 es.length) w ?_) (.int _ _ _);simp[bG,Builtin.len_,run_underlying hu,goInt,run_getObj_map h4,h5]
    ·cases hr
   ·cases hr
  ·rename_i n e x' hu hx;cases hc;simp only[aI,bh,aA]at hr;obtain⟨rfl,rfl,rfl⟩:=hr;refine .pure hm hl ho (dZ (.int .i64 n) w ?_) (.int _ _ _);generalize a.eval x=xv;cases xv<;>simp[Builtin.len_,run_underlying hu,goInt]
  ·cases hc
 ·cases hc
theorem agO(aq:eU g lb ev a)(hm:bc g own LC mem w)(hl:cz g lb own loc w)(ho:bT base own w){c:Call}(Ξ:o.op= .call c)(hb:c.callee= .builtin .append)
  (hc:cV P bj o=some ao) (jY:∀ag sz bytes e x y,ao≠ .appm ag sz bytes e x y) (hr:aI ev loc mem ay o.dst ao=some (v,u,m')):rA P base LC g lb own loc w a o v u m':=by
 simp only[cV,Ξ,hb]at hc;split at hc
 ·rename_i x y t t' iG tw;split at hc
  ·rename_i e x' y' hu hx hy;split at hc
   ·rename_i i ag z hi lM hz;split at hc
    ·rename_i mV;subst mV;by_cases mT:AY bj o.dst=true
     ·rw[if_pos mT]at hc;cases hc;exact absurd rfl (jY _ _ _ _ _ _)
     rw[if_neg mT]at hc;cases hc;have oe:(c.args.map a.eval)= #[a.eval x,a.eval y]:=by
      have:(c.args.map a.eval).toList=[a.eval x,a.eval y]:=by simp[iG]
      rw[<-u7 (xs:=c.args.map a.eval),this]
     have qd:c.argTypes= #[t,t]:=by rw[<-u7 (xs:=c.argTypes),tw]
     simp only[aI,bD,aA,Prod.exists]at hr;obtain⟨r,m1,hr,rfl,rfl,rfl⟩:=hr;obtain⟨zv,i',ae,gu,iI,kT,-,-,-,-⟩:=Ai (P:=P) (g:=g) (lb:=lb) (w:=w) hz;rw[hi]at ae;cases ae;obtain⟨xr,w',h1,h2⟩:=Qy (P:=P) (ty:=o.type) hm hl ho (aq _ _ hx) (aq _ _ hy) hu hi gu kT hr;refine⟨xr,w',.inl ?_,h2⟩;simp only[execOp,Ξ,resolve,hb,oe,qd,Sem.run_bind,Sem.run_pure,Result.andThen_ok,invoke,builtin,h1]
    ·cases hc
   ·cases hc
  ·cases hc
 ·cases hc
theorem IC{kk:KK}{kt:TypeId}(hk:qf P kt=some kk){k:AV}{kv:Value}(nE:isKey kk k=true)(hv:VR g lb k kv)(em:Bool):
  (Instr.checkKey em 10000 kt kv).run P w= .ok () w/\∃d,P.underlying kt=some d/\∀(k':AV) (xL:Value) (r:Bool),VR g bV k' xL->jT k k'=some r->Instr.sameNow d kv xL=some r:=by
 have dC:∀d,P.underlying kt=some d->(∀ms,d≠ .interface ms)->(∀n e,d≠ .array n e)->(∀fs,d≠ .struct fs)->∀n,(Instr.checkKey em (n+1) kt kv).run P w= .ok () w:=by intro d hu h1 h2 h3 n;simp only[Instr.checkKey,Sem.run_bind,run_underlying hu,Result.andThen_ok];cases d<;>first|rfl|exact absurd rfl (h1 _)|exact absurd rfl (h2 _ _)|exact absurd rfl (h3 _)
 unfold qf at hk;split at hk
 ·rename_i q hu;cases hk;refine⟨dC _ hu (by simp) (by simp) (by simp) 9999,_,hu,fun k' xL r nI hr=>?_⟩;cases k<;>simp[isKey]at nE;cases hv;cases k'<;>simp[jT]at hr;cases nI;simp only[Instr.sameNow];obtain⟨eI,rfl⟩:=hr;rw[if_pos eI];rfl
 ·rename_i hu;cases hk;refine⟨dC _ hu (by simp) (by simp) (by simp) 9999,_,hu,fun k' xL r nI hr=>?_⟩;cases k<;>simp[isKey]at nE;cases hv;rename_i s bs fM;cases k'<;>simp[jT]at hr;cases nI;rename_i s' kx ab5;simp only[Instr.sameNow];subst hr;rw[beq_toListBytes,PX fM ab5]
 ·rename_i hu;cases hk;refine⟨dC _ hu (by simp) (by simp) (by simp) 9999,_,hu,fun k' xL r nI hr=>?_⟩;cases k<;>simp[isKey]at nE;cases hv;cases k'<;>simp[jT]at hr;cases nI;simp only[Instr.sameNow];subst hr;rfl
 ·cases hk
def posOf(k:AV):List (AV×AV)->Nat->Option (Nat×AV)
 |[],_=>none
 |(k',v)::l,i=>if jT k k'=some true then some (i,v)else posOf k l (i+1)
theorem Gf{kv:Value}{d:TypeDesc}{k:AV}(hs:∀(k':AV) (xL:Value) (r:Bool),VR g bV k' xL->jT k k'=some r->Instr.sameNow d kv xL=some r):
  ∀(es:List (AV×AV)) (dt:List MapEntry) (i:Nat),es.length=dt.length->(∀j (h:j<es.length) (h':j<dt.length),VR g bV es[j].1 dt[j].key/\VR g bV es[j].2 dt[j].val)→
  jF k es≠none->((jF k es=some none/\Instr.findNow d kv dt i=some none/\posOf k es i=none)∨
   ∃j v,jF k es=some (some v)/\posOf k es i=some (i+j,v)/\∃(h:j<es.length) (h':j<dt.length),v=es[j].2/\Instr.findNow d kv dt i=some (some (i+j,dt[j].val)))
 |[],[],i,_,_,_=> .inl ⟨rfl,rfl,rfl⟩
 |[],_::_,_,h,_,_=>by simp at h
 |_::_,[],_,h,_,_=>by simp at h
 |(k',v)::es,e::dt,i,hlen,hv,φ=>by
  have h0:=hv 0 (by simp) (by simp);simp only[kJ]at h0;simp only[jF]at φ⊢;cases hk:jT k k' with
  |none=>rw[hk]at φ;exact absurd rfl φ
  |some r=>
   rw[hk]at φ
   have lR:=hs _ _ r h0.1 hk;cases r with
   |true=>exact .inr ⟨0,v,rfl,by simp[posOf,hk],by simp,by simp,rfl,by simp[Instr.findNow,lR]⟩
   |false=>
    dsimp only at φ⊢
    have ih:=Gf hs es dt (i+1) (by simpa using hlen) (fun j h h'=>by have:=hv (j+1) (by simpa using h) (by simpa using h');simpa using this) φ;rcases ih with⟨h1,h2,h3⟩|⟨j,v',h1,h2,h3,h4,h5,h6⟩
    ·exact .inl ⟨h1,by simp[Instr.findNow,lR,h2],by simp[posOf,hk,h3]⟩
    ·refine .inr ⟨j+1,v',h1,?_,by simpa using h3,by simpa using h4,by simpa using h5,?_⟩
     ·simp only[posOf,hk];rw[if_neg (by simp),h2];simp;omega
     ·simp only[Instr.findNow,lR,h6,List.getElem_cons_succ];simp;omega
theorem z7{kv:Value}{kt:TypeId}{d:TypeDesc}{l:List MapEntry}{r:Option (Nat×Value)}(hu:P.underlying kt=some d)(h:Instr.findNow d kv l 0=some r):(Instr.findKey kt kv l).run P w= .ok r w:=by simp only[Instr.findKey,Sem.run_bind,run_underlying hu,Result.andThen_ok,h,Sem.run_pure]
theorem ag7(aq:eU g lb ev a)(hm:bc g own LC mem w)(hl:cz g lb own loc w)(ho:bT base own w){t:TypeId}{x y:Operand}{ok:Bool}(Ξ:o.op= .lookup t x y ok)
  :gI P bj base LC g lb own loc mem w ay ev a o ao v u m':=fun hc hr=>by
 simp only[cV,Ξ]at hc;split at hc
 ·rename_i kt e x' y' hu hx hy;split at hc
  ·rename_i z kk hz eI;cases hc;obtain⟨zv,Eh,zw⟩:∃zv,(zeroValue e).run P w= .ok zv w/\VR g lb z zv:=by
    unfold Yp at hz;split at hz
    ·rename_i i hi;split at hz
     ·rename_i zv Oi;exact⟨zv,by simp[zeroValue,typeInfo,hi,Oi],Kn hz⟩
     ·cases hz
    ·cases hz
   have gG:∀(g:Gh) (x:AV) (y:Value),VR g bV x y->VR g lb x y:=fun g x y h=>h.mono g.eS fun _ _ _ h=>by cases h
   have NM:∀{r:AV} {rv:Value} {b:Bool},VR g lb r rv->VR g lb (if ok then .aQ [r,.bool b]else r) (if ok then .tuple #[rv,.bool b]else rv):=fun{r rv b} h=>by
    cases ok
    ·exact h
    ·refine .aQ _ _ _ rfl fun i hi ae=>?_
     match i,hi with
     |0,_=>exact h
     |1,_=>exact .bool _ _
   simp only[aI]at hr;split at hr
   ·rename_i e1;split at hr
    ·rename_i nE;simp only[bh,aA]at hr;obtain⟨rfl,rfl,rfl⟩:=hr;obtain⟨dC,d,uC,-⟩:=IC (P:=P) (w:=w) eI nE (aq _ _ hy) true;have k1:=aq _ _ hx;rw[e1]at k1;obtain⟨xv,bG⟩:∃xv,a.eval x=xv:=⟨_,rfl⟩;rw[bG]at k1;cases k1;have qN:(Instr.findKey kt (a.eval y) []).run P w= .ok none w:=z7 uC rfl;refine .pure hm hl ho ?_ (NM (b:=false) zw);simp only[execOp,Ξ,bG,Instr.lookup,Sem.run_bind,run_underlying hu,Result.andThen_ok,Sem.run_pure];simp only[Array.isEmpty,Array.size_empty,decide_true,dC,Result.andThen_ok,qN,Sem.run_bind,Eh,Sem.run_pure]
    ·cases hr
   ·rename_i id e1;split at hr
    ·rename_i es he;split at hr
     ·rename_i nE;simp only[bD]at hr;obtain⟨fr,dK,hr⟩:=hr;have k1:=aq _ _ hx;rw[e1]at k1;obtain⟨xv,bG⟩:∃xv,a.eval x=xv:=⟨_,rfl⟩;rw[bG]at k1;obtain⟨b,dt,clock,rfl,h2,h3,h4,h5,h6,h7,-⟩:=I9 hm k1 he;obtain⟨dC,d,uC,lR⟩:=IC (P:=P) (w:=w) eI nE (aq _ _ hy) dt.isEmpty;have oq:=Gf lR es dt.toList 0 (by simpa using h6.symm) (fun j h h'=>by have:=h7 j h (by simpa using h');simpa using this) (by rw[dK];simp);rcases oq with⟨f1,f2,-⟩|⟨j,v',f1,-,f3,f4,f5,f6⟩
      ·rw[dK]at f1;cases f1;simp only[aA]at hr;obtain⟨rfl,rfl,rfl⟩:=hr;have qN:(Instr.findKey kt (a.eval y) dt.toList).run P w= .ok none w:=z7 uC f2;refine .pure hm hl ho ?_ (NM (b:=false) zw);simp only[execOp,Ξ,bG,Instr.lookup,Sem.run_bind,run_underlying hu,Result.andThen_ok,run_getObj_map h5,Sem.run_pure,dC,qN,Eh]
      ·rw[dK]at f1;cases f1;simp only[aA]at hr;obtain⟨rfl,rfl,rfl⟩:=hr;subst f5;have zt:=(h7 j f3 (by simpa using f4)).2;have qN:(Instr.findKey kt (a.eval y) dt.toList).run P w= .ok (some (0+j,dt.toList[j].val)) w:=z7 uC f6;refine .pure hm hl ho ?_ (NM (b:=true) (gG _ _ _ zt));simp only[execOp,Ξ,bG,Instr.lookup,Sem.run_bind,run_underlying hu,Result.andThen_ok,run_getObj_map h5,Sem.run_pure,dC,qN,mz]
     ·cases hr
    ·cases hr
   ·cases hr
  ·cases hc
 ·cases hc
theorem WB{k v:AV}:∀(es r:List (AV×AV)) (i:Nat),uI k v es=some r->(jF k es=some none/\posOf k es i=none/\r=es++[(k,v)])∨
  ∃j v',jF k es=some (some v')/\posOf k es i=some (i+j,v')/\(∃h:j<es.length,jT k es[j].1=some true)/\r=es.set j (k,v)
 |[],r,i,h=>by cases h;exact .inl ⟨rfl,rfl,rfl⟩
 |(k',v')::es,r,i,h=>by
  simp only[uI]at h;cases hk:jT k k' with
  |none=>rw[hk]at h;cases h
  |some t=>
   rw[hk]at h
   cases t with
   |true=>cases h;exact .inr ⟨0,v',by simp[jF,hk],by simp[posOf,hk],⟨by simp,hk⟩,rfl⟩
   |false=>
    simp only[bD]at h
    obtain⟨r',h,rfl⟩:=h;rcases WB es r' (i+1) h with⟨h1,h2,rfl⟩|⟨j,v2,h1,h2,⟨h3,fw⟩,rfl⟩
    ·exact .inl ⟨by simp[jF,hk,h1],by simp[posOf,hk,h2],rfl⟩
    ·exact .inr ⟨j+1,v2,by simp[jF,hk,h1],by simp[posOf,hk,h2];omega,⟨by simpa using h3,by simpa using fw⟩,rfl⟩
theorem Wv{k:AV}:∀(es r:List (AV×AV)) (i:Nat),xN k es=some r->(jF k es=some none/\posOf k es i=none/\r=es)∨
  ∃j v',jF k es=some (some v')/\posOf k es i=some (i+j,v')/\j<es.length/\r=es.eraseIdx j
 |[],r,i,h=>by cases h;exact .inl ⟨rfl,rfl,rfl⟩
 |(k',v')::es,r,i,h=>by
  simp only[xN]at h;cases hk:jT k k' with
  |none=>rw[hk]at h;cases h
  |some t=>
   rw[hk]at h
   cases t with
   |true=>cases h;exact .inr ⟨0,v',by simp[jF,hk],by simp[posOf,hk],by simp,rfl⟩
   |false=>
    simp only[bD]at h
    obtain⟨r',h,rfl⟩:=h;rcases Wv es r' (i+1) h with⟨h1,h2,rfl⟩|⟨j,v2,h1,h2,h3,rfl⟩
    ·exact .inl ⟨by simp[jF,hk,h1],by simp[posOf,hk,h2],rfl⟩
    ·exact .inr ⟨j+1,v2,by simp[jF,hk,h1],by simp[posOf,hk,h2];omega,by simpa using h3,rfl⟩
def fO(w:World)(b:Nat)(o:Obj):World:= {w with heap:=w.heap.setIfInBounds b o}
theorem E4(hm:bc g own LC mem w)(hl:cz g lb own loc w)(ho:bT base own w){id b:Nat}{x:Obj}{blk:θ}(hb:own b=some (.m id))(hid:id<mem.ε.length)
  (cC:∀o,g.im b o=none) (tm:tR g own LC (fO w b x) id blk):
  ib base LC g lb own loc w .undef none (mem.put id blk true) undef (fO w b x):=by
 have jB:∀b',b'≠b->(fO w b x).heap[b']?=w.heap[b']?:=fun b' φ=>by simp only[fO];rw[J4 (Ne.symm φ)]
 refine⟨g,lb,own,⟨g.eS,by simp[fO],rfl,rfl,rfl,fun b' _ ho=>jB b' (by rintro rfl;rw[hb]at ho;cases ho),fun _ _ h=>h,fun _ _ _ _=>rfl⟩,fun _ _ _ h=>h,.undef _,?_,?_,?_⟩
 ·refine hm.Ff hid g.eS (fun _ h=>h) (fun _ _ _ h=>h) (fun mW b' φ aY=>⟨rfl,jB b' ?_,fun _=>rfl⟩) tm (fun b' o y hy=>?_)
  ·rintro rfl;rw[hb]at aY;cases aY;exact φ rfl
  ·have φ:b'≠b:=by rintro rfl;rw[cC]at hy;cases hy
   rw[qC (jB b' φ)];exact hm.im _ _ _ hy
 ·exact hl.bf g.eS fun d b' aY=>⟨rfl,jB b' (by rintro rfl;rw[hb]at aY;cases aY),fun _=>rfl⟩
 ·exact⟨fun b' o aY=>by simpa[fO]using ho.ge b' o aY,by simpa[fO]using ho.base⟩
theorem run_setObj_map{b:Nat}{dt:Array MapEntry}{clock:Nat}(h:w.heap[b]?=some (.map dt clock))(x:Obj):(setObj b x).run P w= .ok () (fO w b x):=by simp only[setObj,Sem.run,h];rfl
theorem Cb{b:Nat}{y:Obj}(h:w.heap[b]?=some y)(x:Obj):(fO w b x).heap[b]?=some x:=by have ψ:=(An.1 h).1;simp[fO,ψ]
end
mutual
theorem C6(n:Nat)(k:Bool):∀v:AV,plain v=true->exp n k v=v
 | .undef,_=>rfl
 | .cY,_=>rfl
 | .int _ _,_=>rfl
 | .bool _,_=>rfl
 | .str _,_=>rfl
 | .iW,_=>rfl
 | .aj _ _ _,h=>by simp[plain]at h
 | .μ _ _,h=>by simp[plain]at h
 | .ref _,h=>by simp[plain]at h
 | .list c l,h=>by simp only[plain,ej,ya,decide_eq_true_eq]at h;obtain⟨rfl|rfl,h⟩:=h<;>simp only[exp,ρ.exp,Gd n k l h]
 | .sl _ _ _ _ _,h=>by simp[plain]at h
 | .agg l,h=>by simp only[plain]at h;simp only[exp,Gd n k l h]
 | .aQ l,h=>by simp only[plain]at h;simp only[exp,Gd n k l h]
 | .fn (.func f) [] [],_=>rfl
 | .fn (.func f) (_::_) _,h=>by simp[plain]at h
 | .fn (.func f) [] (_::_),h=>by simp[plain]at h
 | .fn (.method _) _ _,h=>by simp[plain]at h
 | .fn (.methodOf _ _) _ _,h=>by simp[plain]at h
 | .fn (.via _ _ _ _) _ _,h=>by simp[plain]at h
 | .fn (.yield _) _ _,h=>by simp[plain]at h
 | .fX,_=>rfl
 | .iface t v,h=>by simp only[plain]at h;simp only[exp,C6 n k v h]
 | .gy,_=>rfl
 | .map _,h=>by simp[plain]at h
 | .gZ,_=>rfl
theorem Gd(n:Nat)(k:Bool):∀l:List AV,sB l=true->aX n k l=l
 |[],_=>rfl
 |v::l,h=>by simp only[sB,ej]at h;simp only[aX,C6 n k v h.1,Gd n k l h.2]
end
mutual
theorem Wp(n:Nat):∀v:AV,plain v=true->lo n v=true
 | .undef,_=>rfl
 | .cY,_=>rfl
 | .int _ _,_=>rfl
 | .bool _,_=>rfl
 | .str _,_=>rfl
 | .iW,_=>rfl
 | .aj _ _ _,h=>by simp[plain]at h
 | .μ _ _,h=>by simp[plain]at h
 | .ref _,h=>by simp[plain]at h
 | .list c l,h=>by simp only[plain,ej,ya,decide_eq_true_eq]at h;obtain⟨rfl|rfl,h⟩:=h<;>simp only[lo,ρ.lo,I5 n l h,wD]
 | .sl _ _ _ _ _,h=>by simp[plain]at h
 | .agg l,h=>by simp only[plain]at h;simp only[lo,I5 n l h]
 | .aQ l,h=>by simp only[plain]at h;simp only[lo,I5 n l h]
 | .fn (.func f) [] [],_=>rfl
 | .fn (.func f) (_::_) _,h=>by simp[plain]at h
 | .fn (.func f) [] (_::_),h=>by simp[plain]at h
 | .fn (.method _) _ _,h=>by simp[plain]at h
 | .fn (.methodOf _ _) _ _,h=>by simp[plain]at h
 | .fn (.via _ _ _ _) _ _,h=>by simp[plain]at h
 | .fn (.yield _) _ _,h=>by simp[plain]at h
 | .fX,_=>rfl
 | .iface t v,h=>by simp only[plain]at h;simp only[lo,Wp n v h]
 | .gy,_=>rfl
 | .map _,h=>by simp[plain]at h
 | .gZ,_=>rfl
theorem I5(n:Nat):∀l:List AV,sB l=true->ba n l=true
 |[],_=>rfl
 |v::l,h=>by simp only[sB,ej]at h;simp only[ba,Wp n v h.1,I5 n l h.2,wD]
end
section
variable{P:Program}{base:Nat}{LC:eY}{g:Gh}{lb:LB}{own:OW}{loc:Nat->Option (Nat×θ)}{mem:Mem}{w:World}{bj:Nat->Bool}{ay:cx}
variable{ev:br->AV}{a:Act}{o:Oper}{ao:AO}{v:AV}{u:kL}{m':Mem}
theorem VR.plain{v:AV}{x:Value}(h:VR g lb v x)(hp:plain v=true):VR g bV v x:=by
 have h1:=VR.exp (lb':=bV) 0 true h;rw[C6 0 true v hp]at h1;have hs:(g.cut 0).sub g:=by
  refine⟨fun _ _ _ h=>h,fun id b hb=>?_,fun t n x hx=>?_⟩
  ·simp[Gh.cut]at hb
  ·simp[Gh.cut]at hx
 exact VR.sub hs h1
theorem afn{kk:KK}{k:AV}{x:Value}(h:VR g lb k x)(hk:isKey kk k=true):VR g bV k x:=by refine h.plain ?_;cases kk<;>cases k<;>simp_all [isKey,Θ.plain]
theorem ajQ{lb':LB}{k k':AV}{x x':Value}(h:VR g lb k x)(h':VR g lb' k' x')(he:jT k k'=some true):∀n,Instr.sameBits n x' x=true:=by
 intro n;cases k<;>cases k'<;>simp[jT]at he
 ·cases h;cases h';obtain⟨rfl,rfl⟩:=he;cases n<;>simp[Instr.sameBits]
 ·cases h;cases h';subst he;cases n<;>simp[Instr.sameBits]
 ·cases h;cases h';rename_i b1 h1 b2 h2;subst he;have:b2.data.toList=b1.data.toList:=WC (h2.trans h1.symm);have hb:b2=b1:=by obtain⟨⟨l1⟩⟩:=b1;obtain⟨⟨l2⟩⟩:=b2;simp at this;subst this;rfl
  subst hb;have:(b2==b2)=true:=by rw[beq_toListBytes];simp
  cases n<;>simp[Instr.sameBits,this]
theorem VJ{kk:KK}{k:AV}(hk:isKey kk k=true):plain k=true:=by unfold isKey at hk;split at hk<;>first|rfl|(cases hk;done)
theorem WU(aq:eU g lb ev a)(hm:bc g own LC mem w)(hl:cz g lb own loc w)(ho:bT base own w){t:TypeId}{x y z:Operand}(Ξ:o.op= .mapUpdate t x y z)
  :gI P bj base LC g lb own loc mem w ay ev a o ao v u m':=fun hc hr=>by
 simp only[cV,Ξ]at hc;split at hc
 ·rename_i kt et x' y' z' hu hx hy hz;simp only[bD]at hc;obtain⟨kk,eI,rfl⟩:=hc;simp only[aI]at hr;split at hr
  ·rename_i id e1;split at hr
   ·rename_i es he;split at hr
    ·rename_i ji;simp only[ej]at ji;obtain⟨nE,dH⟩:=ji;simp only[bD,aA]at hr;obtain⟨fb,MW,rfl,rfl,rfl⟩:=hr;have k1:=aq _ _ hx;rw[e1]at k1;obtain⟨xv,bG⟩:∃xv,a.eval x=xv:=⟨_,rfl⟩;rw[bG]at k1;obtain⟨b,dt,clock,rfl,h2,h3,h4,h5,h6,h7,h8⟩:=I9 hm k1 he;have hid:id<mem.ε.length:=hm.jx id b h2;obtain⟨dC,d,uC,lR⟩:=IC (P:=P) (w:=w) eI nE (aq _ _ hy) false;have UT:=afn (aq _ _ hy) nE;have zw:=(aq _ _ hz).plain dH;have mU:=WB es fb 0 MW;have oq:=Gf lR es dt.toList 0 (by simpa using h6.symm) (fun j h h'=>by have:=h7 j h (by simpa using h');simpa using this) (by rcases mU with⟨h,_⟩|⟨_,_,h,_⟩<;>rw[h]<;>simp);rcases mU with⟨f1,f2,rfl⟩|⟨j,v',f1,f2,f3,rfl⟩
     ·have g2:Instr.findNow d (a.eval y) dt.toList 0=some none:=by
       rcases oq with⟨_,g2,_⟩|⟨j,v',g1,_⟩
       ·exact g2
       ·rw[f1]at g1;cases g1
      have qN:(Instr.findKey kt (a.eval y) dt.toList).run P w= .ok none w:=z7 uC g2;refine⟨undef,fO w b (.map (dt.push {key:=a.eval y,val:=a.eval z,born:=clock}) (clock+1)),.inr ⟨?_,rfl⟩,E4 hm hl ho h3 hid h4 ?_⟩
      ·simp only[execOp,Ξ,bG,Instr.mapUpdate,Sem.run_bind,run_underlying hu,Result.andThen_ok,run_getObj_map h5,dC,qN,run_setObj_map h5];rfl
      ·refine⟨b,h2,h3,h4,_,_,Cb h5 _,by simp[h6],fun i hi ae=>?_,fun p hp=>?_⟩;rcases da i es.length with ψ|dD
       ·have eQ:i<dt.size:=by omega
        simp only[ye ψ,alE,eQ,dite_true];exact h7 i ψ eQ
       ·have jo:i=es.length:=by simp at hi;omega
        subst jo;have:¬es.length<dt.size:=by omega
        simp only[yf (bS _),Nat.sub_self,kJ,alE,this,dite_false];exact⟨UT,zw⟩
       ·rcases dT.1 hp with hp|hp
        ·exact h8 p hp
        ·obtain rfl:p=_:=by simpa using hp
         exact⟨VJ nE,dH⟩
     ·obtain⟨hj,vF⟩:=f3;obtain⟨dL,qN⟩:∃dL:j<dt.size,(Instr.findKey kt (a.eval y) dt.toList).run P w= .ok (some (j,dt[j].val)) w:=by
       rcases oq with⟨g1,_⟩|⟨j2,v2,g1,g2,g3,g4,g5,g6⟩
       ·rw[f1]at g1;cases g1
       ·rw[f2]at g2;simp only[bh,aA,lF]at g2;obtain⟨rfl,-⟩:=g2;refine⟨by simpa using g4,?_⟩;have:=z7 (P:=P) (w:=w) uC g6;simpa using this
      have Ir:=ajQ (aq _ _ hy) (h7 j hj dL).1 vF 10000;refine⟨undef,fO w b (.map (dt.modify j fun e=> {e with key:=a.eval y,val:=a.eval z}) clock),.inr ⟨?_,rfl⟩,E4 hm hl ho h3 hid h4 ?_⟩
      ·simp only[execOp,Ξ,bG,Instr.mapUpdate,Sem.run_bind,run_underlying hu,Result.andThen_ok,run_getObj_map h5,dC,qN,wz dL,qx,Option.getD_some,Instr.keyThatStays,Ir,if_true,Sem.run_pure,run_setObj_map h5]
      ·refine⟨b,h2,h3,h4,_,_,Cb h5 _,by simp[h6],fun i hi ae=>?_,fun p hp=>?_⟩;have jo:i<es.length:=by simpa using hi
       have Nc:i<dt.size:=by omega
       simp only[List.getElem_set,Array.getElem_modify];by_cases o7:j=i
       ·subst o7;simp only[if_true];exact⟨UT,zw⟩
       ·simp only[o7,if_false];exact h7 i jo Nc
       ·rcases List.mem_or_eq_of_mem_set hp with hp|rfl
        ·exact h8 p hp
        ·exact⟨VJ nE,dH⟩
    ·cases hr
   ·cases hr
  ·cases hr
 ·cases hc
theorem WW(hm:bc g own LC mem w)(hl:cz g lb own loc w)(ho:bT base own w){t:TypeId}(Ξ:o.op= .makeMap t none)
  :gI P bj base LC g lb own loc mem w ay ev a o ao v u m':=fun hc hr=>by
 simp only[cV,Ξ]at hc;cases hc;simp only[aI,bh,aA]at hr;obtain⟨rfl,rfl,rfl⟩:=hr;let g':Gh:= {g with mb:=fun id=>if id=mem.ε.length then some w.heap.size else g.mb id};have dh:g.sub g':=⟨fun _ _ _ h=>h,fun id b hb=>by
  have:=hm.jx id b hb
  simp only[g'];rw[if_neg (by omega)];exact hb,fun _ _ _ h=>h⟩
 have Ω:=eE.alloc g own w (.map #[] 0) (some (.m mem.ε.length));refine⟨.map (some w.heap.size),w.alloc (.map #[] 0),.inl ?_,g',lb,_,⟨dh,Ω.size,Ω.os,Ω.tape,Ω.output,Ω.bf,Ω.jI,Ω.im⟩,fun _ _ _ h=>h,.map _ _ _ (by simp[g']),?_,?_,ho.alloc _ _⟩
 ·simp only[execOp,Ξ,alB,Instr.makeMap,Sem.run_bind,run_newObj,Result.andThen_ok,Sem.run_pure];rfl
 ·refine hm.push (hm.alloc ho _ _) _ _ (fun id b hb=>?_) (fun id hid=>?_) ?_
  ·split at hb
   ·exact .inr (by assumption)
   ·exact .inl hb
  ·exact if_neg (by omega)
  ·exact⟨w.heap.size,by simp,by simp[gP],(show∀o,g.im w.heap.size o=none from xJ hm),#[],0,qK w _,rfl,fun i h=>by simp at h,fun p hp=>by cases hp⟩
 ·exact(hl.alloc ho _ _).bf dh fun _ _ _=>⟨rfl,rfl,fun _=>rfl⟩
theorem agX(aq:eU g lb ev a)(hm:bc g own LC mem w)(hl:cz g lb own loc w)(ho:bT base own w){c:Call}(Ξ:o.op= .call c)(hb:c.callee= .builtin .delete)
  :gI P bj base LC g lb own loc mem w ay ev a o ao v u m':=fun hc hr=>by
 simp only[cV,Ξ,hb]at hc;split at hc
 ·rename_i x y t ts iG tw;split at hc
  ·rename_i kt et x' y' hu hx hy;simp only[bD]at hc;obtain⟨kk,eI,rfl⟩:=hc;have oe:(c.args.map a.eval)= #[a.eval x,a.eval y]:=by
    have:(c.args.map a.eval).toList=[a.eval x,a.eval y]:=by simp[iG]
    rw[<-u7 (xs:=c.args.map a.eval),this]
   have qd:c.argTypes[0]?=some t:=by rw[<-Array.getElem?_toList,tw];rfl
   simp only[aI]at hr;split at hr
   ·rename_i id e1;split at hr
    ·rename_i es he;split at hr
     ·rename_i nE;simp only[bD,aA]at hr;obtain⟨fb,MW,rfl,rfl,rfl⟩:=hr;have k1:=aq _ _ hx;rw[e1]at k1;obtain⟨xv,bG⟩:∃xv,a.eval x=xv:=⟨_,rfl⟩;rw[bG]at k1;obtain⟨b,dt,clock,rfl,h2,h3,h4,h5,h6,h7,h8⟩:=I9 hm k1 he;have hid:id<mem.ε.length:=hm.jx id b h2;obtain⟨dC,d,uC,lR⟩:=IC (P:=P) (w:=w) eI nE (aq _ _ hy) dt.isEmpty;have mU:=Wv es fb 0 MW;have oq:=Gf lR es dt.toList 0 (by simpa using h6.symm) (fun j h h'=>by have:=h7 j h (by simpa using h');simpa using this) (by rcases mU with⟨h,_⟩|⟨_,_,h,_⟩<;>rw[h]<;>simp);rcases mU with⟨f1,f2,rfl⟩|⟨j,v',f1,f2,hj,rfl⟩
      ·have g2:Instr.findNow d (a.eval y) dt.toList 0=some none:=by
        rcases oq with⟨_,g2,_⟩|⟨j,v',g1,_⟩
        ·exact g2
        ·rw[f1]at g1;cases g1
       have qN:(Instr.findKey kt (a.eval y) dt.toList).run P w= .ok none w:=z7 uC g2;refine⟨undef,fO w b (.map dt clock),.inl ?_,E4 hm hl ho h3 hid h4 ⟨b,h2,h3,h4,_,_,Cb h5 _,h6,h7,h8⟩⟩;simp only[execOp,Ξ,resolve,hb,oe,Sem.run_bind,Sem.run_pure,Result.andThen_ok,invoke,builtin,Builtin.delete_,qd,bG];simp[run_underlying hu,run_getObj_map h5,dC,qN,run_setObj_map h5,undef]
      ·obtain⟨dL,qN⟩:∃dL:j<dt.size,(Instr.findKey kt (a.eval y) dt.toList).run P w= .ok (some (j,dt[j].val)) w:=by
        rcases oq with⟨g1,_⟩|⟨j2,v2,g1,g2,g3,g4,g5,g6⟩
        ·rw[f1]at g1;cases g1
        ·rw[f2]at g2;simp only[bh,aA,lF]at g2;obtain⟨rfl,-⟩:=g2;refine⟨by simpa using g4,?_⟩;have:=z7 (P:=P) (w:=w) uC g6;simpa using this
       refine⟨undef,fO w b (.map (dt.eraseIdxIfInBounds j) clock),.inl ?_,E4 hm hl ho h3 hid h4 ⟨b,h2,h3,h4,_,_,Cb h5 _,?_,fun i hi ae=>?_,fun p hp=>h8 p (List.mem_of_mem_eraseIdx hp)⟩⟩
       ·simp only[execOp,Ξ,resolve,hb,oe,Sem.run_bind,Sem.run_pure,Result.andThen_ok,invoke,builtin,Builtin.delete_,qd,bG];simp[run_underlying hu,run_getObj_map h5,dC,qN,run_setObj_map h5,undef]
       ·have e1:(dt.eraseIdxIfInBounds j).size=dt.size-1:=by simp[alF,dL]
        rw[e1,alG hj,h6]
       ·have e1:(dt.eraseIdxIfInBounds j)=dt.eraseIdx j dL:=by simp[alF,dL]
        have jo:i<es.length-1:=by rw[alG hj]at hi;exact hi
        simp only[e1,List.getElem_eraseIdx,Array.getElem_eraseIdx];by_cases o7:i<j
        ·simp only[o7,dite_true];exact h7 i (by omega) (by omega)
        ·simp only[o7,dite_false];exact h7 (i+1) (by omega) (by omega)
     ·cases hr
    ·cases hr
   ·cases hr
  ·cases hc
 ·cases hc
theorem ahf(aq:eU g lb ev a)(hm:bc g own LC mem w)(hl:cz g lb own loc w)(ho:bT base own w){t:TypeId}{x:Operand}(Ξ:o.op= .range t x)
  :gI P bj base LC g lb own loc mem w ay ev a o ao v u m':=fun hc hr=>by
 simp only[cV,Ξ]at hc;split at hc
 ·rename_i x' hu hx;cases hc;simp only[aI]at hr;split at hr
  ·rename_i s d e1 e2;simp only[bh,aA]at hr;obtain⟨rfl,rfl,rfl⟩:=hr;have k1:=aq _ _ hx;rw[e1]at k1;obtain⟨xv,bG⟩:∃xv,a.eval x=xv:=⟨_,rfl⟩;rw[bG]at k1;cases k1 with
   |str _ bs _ fM=>
    refine⟨.pointer (some ⟨w.heap.size,0,none⟩),w.alloc (.stringIter bs 0),.inl ?_,g,tC lb d (bz loc d) w.heap.size,_,.alloc g own w _ (some (.l d)),IZ hl d _,.aj _ _ _ _ _ (by simp[tC]),hm.alloc ho _ _,?_,ho.alloc _ _⟩
    ·simp only[execOp,Ξ,bG,Instr.range,Sem.run_bind,run_underlying hu,Result.andThen_ok,Sem.run_pure,run_newObj];rfl
    ·refine hl.new ho d _ _ (fun l' iH=>by cases iH) (fun s' pos h=>?_);cases h;exact⟨xJ hm,bs,rfl,fM⟩
  ·cases hr
 ·cases hc
theorem XO{b:Nat}{bs:ByteArray}{pos:Nat}(h:w.heap[b]?=some (.stringIter bs pos)):(getObj b).run P w= .ok (.stringIter bs pos) w:=by simp only[getObj,Sem.run,h]
theorem ajn{b:Nat}{bs:ByteArray}{pos:Nat}(h:w.heap[b]?=some (.stringIter bs pos))(x:Obj):(setObj b x).run P w= .ok () (fO w b x):=by simp only[setObj,Sem.run,h];rfl
theorem ZT{bs:ByteArray}{s:List Nat}(h:bs.data.toList.map UInt8.toNat=s):(⟨(s.map UInt8.ofNat).toArray⟩:ByteArray)=bs:=by subst h;obtain⟨⟨l⟩⟩:=bs;simp[cT,Function.comp_def]
theorem ahd(aq:eU g lb ev a)(hm:bc g own LC mem w)(hl:cz g lb own loc w)(ho:bT base own w){x:Operand}(Ξ:o.op= .next x true)
  :gI P bj base LC g lb own loc mem w ay ev a o ao v u m':=fun hc hr=>by
 simp only[cV,Ξ,bD]at hc;obtain⟨x',hx,rfl⟩:=hc;simp only[aI]at hr;split at hr
 ·rename_i d wu e1;split at hr
  ·rename_i v' s pos hd;split at hr
   ·rename_i hv;subst hv;have k1:=aq _ _ hx;rw[e1]at k1;obtain⟨xv,bG⟩:∃xv,a.eval x=xv:=⟨_,rfl⟩;rw[bG]at k1;cases k1 with
    |aj _ _ _ _ b hb=>
     obtain⟨b',aY,dx,cC,bs,fM,hs⟩:=hl.iter d _ s pos hd
     rw[hb]at aY;cases aY;have hlen:=E9 hs;split at hr
     ·rename_i jQ;simp only[bh,aA,ZT hs]at hr;obtain⟨rfl,rfl,rfl⟩:=hr;have jB:∀b',b'≠b->(fO w b (.stringIter bs (pos+(Utf8.decode bs pos).2))).heap[b']?=w.heap[b']?:=fun b' φ=>by simp only[fO];rw[J4 (Ne.symm φ)]
      refine⟨.tuple #[.bool true,.int .i64 pos,.int .i32 (Utf8.decode bs pos).1],fO w b (.stringIter bs (pos+(Utf8.decode bs pos).2)),.inl ?_,g,lb,own,
       ⟨g.eS,by simp[fO],rfl,rfl,rfl,fun b' _ ho=>jB b' (by rintro rfl;rw[dx]at ho;cases ho),fun _ _ h=>h,fun _ _ _ _=>rfl⟩,fun _ _ _ h=>h,?_,?_,?_,?_⟩
      ·simp only[execOp,Ξ,bG,Instr.next,Sem.run_bind,XO fM,Result.andThen_ok];rw[if_pos (by rw[hlen];exact jQ)];simp only[Sem.run_bind,ajn fM,Result.andThen_ok,Sem.run_pure];rfl
      ·refine .aQ _ _ _ rfl fun i hi ae=>?_
       match i,hi with
       |0,_=>exact .bool _ _
       |1,_=>exact .int _ _ _
       |2,_=>exact .int _ _ _
      ·refine hm.bf g.eS (fun _ h=>h) (fun _ _ h=>h) (fun id b' aY=>⟨rfl,jB b' ?_,fun _=>rfl⟩) (fun b' o y hy=>?_)
       ·rintro rfl;rw[dx]at aY;cases aY
       ·have φ:b'≠b:=by rintro rfl;rw[cC]at hy;cases hy
        rw[qC (jB b' φ)];exact hm.im _ _ _ hy
      ·have jz:(fO w b (.stringIter bs (pos+(Utf8.decode bs pos).2))).heap[b]?=some (.stringIter bs (pos+(Utf8.decode bs pos).2)):=Cb fM _;refine⟨fun d' i l' kD=>?_,fun d' i s' pos' kD=>?_,fun d' i b' aY=>?_⟩
       ·simp only[nQ]at kD;split at kD
        ·cases kD
        ·rename_i iq;obtain⟨b2,q1,q2⟩:=hl.cells d' i l' kD;have φ:b2≠b:=by rintro rfl;have:=q2.1;rw[dx]at this;cases this;exact iq rfl
         exact⟨b2,q1,q2.bf g.eS (fun _ _ _ h=>h) rfl (jB b2 φ) fun _=>rfl⟩
       ·simp only[nQ]at kD;split at kD
        ·rename_i iq;subst iq;cases kD;exact⟨b,hb,dx,cC,bs,jz,hs⟩
        ·rename_i iq;obtain⟨b2,q1,q2,q3,ZL,q4,q5⟩:=hl.iter d' i s' pos' kD;have φ:b2≠b:=by rintro rfl;rw[dx]at q2;cases q2;exact iq rfl
         exact⟨b2,q1,q2,q3,ZL,(jB b2 φ).trans q4,q5⟩
       ·obtain⟨v2,KD,q1,q2⟩:=hl.wu d' i b' aY;by_cases iq:d=d'
        ·subst iq;rw[hd]at q1;cases q1;exact⟨_,.iter s (pos+(Utf8.decode bs pos).2),by simp[nQ],q2⟩
        ·exact⟨v2,KD,by simp[nQ,iq,q1],q2⟩
      ·exact⟨fun b' o aY=>by simpa[fO]using ho.ge b' o aY,by simpa[fO]using ho.base⟩
     ·rename_i jQ;simp only[bh,aA]at hr;obtain⟨rfl,rfl,rfl⟩:=hr;refine .pure hm hl ho (x:= .tuple #[.bool false]) ?_ (.aQ _ _ _ rfl fun i hi ae=>by
       match i,hi with
       |0,_=>exact .bool _ _)
      simp only[execOp,Ξ,bG,Instr.next,Sem.run_bind,XO fM,Result.andThen_ok];rw[if_neg (by rw[hlen];exact jQ)];rfl
   ·cases hr
  ·cases hr
 ·cases hr
end
end Go.Θ
