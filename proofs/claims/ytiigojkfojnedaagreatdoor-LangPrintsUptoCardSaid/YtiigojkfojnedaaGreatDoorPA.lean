/- A text of this proof. -/
import Derived.CallsIn
import Derived.OrdersIn
import Derived.LoopNIn
import Derived.Laws.AppendOwn
import Derived.Laws.CopyRow
import Derived.Laws.Tables
import Derived.Deep.MidRow
import Derived.Below
set_option linter.unusedVariables false
set_option linter.unusedSimpArgs false
namespace Go.Abs
inductive Cap
 | nil
 | any
 | full
 | own (t : Nat)
 deriving DecidableEq
inductive AV
 | undef
 | junk
 | int (k : IntKind) (n : Int)
 | bool (b : Bool)
 | str (s : List Nat)
 | nilp
 | lptr (d v off : Nat)
 | gptr (id off : Nat)
 | ref (l : List AV)
 | list (c : Cap) (l : List AV)
 | sl (kd id off n cap : Nat)
 | agg (l : List AV)
 | tup (l : List AV)
 | fn (f : Fn) (first cap : List AV)
 | nilfn
 | iface (t : TypeId) (v : AV)
 | nilif
 | map (id : Nat)
 | nilmap
 deriving Inhabited
def AV.cells : AV -> List AV
 | .agg l => l
 | .tup _ => []
 | .undef => []
 | v => [v]
def AV.one : AV -> Bool
 | .agg _ => false
 | .tup _ => false
 | .undef => false
 | _ => true
mutual
def AV.beq : AV -> AV -> Bool
 | .undef,.undef => true
 | .junk,.junk => true
 | .int k n,.int k' n' => decide (k = k') && decide (n = n')
 | .bool b,.bool b' => b == b'
 | .str s,.str s' => decide (s = s')
 | .nilp,.nilp => true
 | .lptr d v o,.lptr d' v' o' => decide (d = d') && decide (v = v') && decide (o = o')
 | .gptr d o,.gptr d' o' => decide (d = d') && decide (o = o')
 | .ref l,.ref l' => AV.beqs l l'
 | .list c l,.list c' l' => decide (c = c') && AV.beqs l l'
 | .sl kd i o n c,.sl kd' i' o' n' c' => decide (kd = kd') && decide (i = i') && decide (o = o') && decide (n = n') && decide (c = c')
 | .agg l,.agg l' => AV.beqs l l'
 | .tup l,.tup l' => AV.beqs l l'
 | .fn f a b,.fn f' a' b' => decide (f = f') && AV.beqs a a' && AV.beqs b b'
 | .nilfn,.nilfn => true
 | .iface t v,.iface t' v' => decide (t = t') && AV.beq v v'
 | .nilif,.nilif => true
 | .map i,.map i' => decide (i = i')
 | .nilmap,.nilmap => true
 | _,_ => false
def AV.beqs : List AV -> List AV -> Bool
 | [],[] => true
 | a :: l,b :: l' => AV.beq a b && AV.beqs l l'
 | _,_ => false
end
def Cap.exp (n : Nat) (k : Bool) : Cap -> Cap
 | .own t => if k && decide (t < n) then .own t else .any
 | .full => if k then .full else .any
 | .any => .any
 | .nil => .nil
def Fn.below (n : Nat) : Fn -> Bool
 | .func _ => true
 | .yield l => decide (l < n)
 | _ => false
mutual
def exp (n : Nat) (k : Bool) : AV -> AV
 | .lptr _ _ _ => .junk
 | .gptr id off => if id < n then .gptr id off else .junk
 | .ref l => .ref (exps n k l)
 | .list c l => .list (c.exp n k) (exps n k l)
 | .sl kd id off m cap => if id < n then .sl kd id off m cap else .junk
 | .agg l => .agg (exps n k l)
 | .tup l => .tup (exps n k l)
 | .fn f a b => if Fn.below n f then .fn f (exps n k a) (exps n k b) else .junk
 | .iface t v => .iface t (exp n k v)
 | .map id => if id < n then .map id else .junk
 | v => v
def exps (n : Nat) (k : Bool) : List AV -> List AV
 | [] => []
 | v :: l => exp n k v :: exps n k l
end
mutual
def nol : AV -> AV
 | .lptr _ _ _ => .junk
 | .ref l => .ref (nols l)
 | .list c l => .list c (nols l)
 | .agg l => .agg (nols l)
 | .tup l => .tup (nols l)
 | .fn f a b => .fn f (nols a) (nols b)
 | .iface t v => .iface t (nol v)
 | v => v
def nols : List AV -> List AV
 | [] => []
 | v :: l => nol v :: nols l
end
mutual
def frzW (n : Nat) (hp : Nat -> Nat -> AV) (hs : Nat -> Nat -> Nat -> Nat -> AV) : AV -> AV
 | .lptr _ _ _ => .junk
 | .gptr id off => if id < n then .gptr id off else hp id off
 | .ref l => .ref (frzWs n hp hs l)
 | .list c l => .list (c.exp n false) (frzWs n hp hs l)
 | .sl kd id off m cap => if id < n then .sl kd id off m cap else hs kd id off m
 | .agg l => .agg (frzWs n hp hs l)
 | .tup l => .tup (frzWs n hp hs l)
 | .fn f a b => if Fn.below n f then .fn f (frzWs n hp hs a) (frzWs n hp hs b) else .junk
 | .iface t v => .iface t (frzW n hp hs v)
 | .map id => if id < n then .map id else .junk
 | v => v
def frzWs (n : Nat) (hp : Nat -> Nat -> AV) (hs : Nat -> Nat -> Nat -> Nat -> AV) : List AV -> List AV
 | [] => []
 | v :: l => frzW n hp hs v :: frzWs n hp hs l
end
def chunk (s : Nat) : Nat -> List AV -> List AV
 | 0,_ => []
 | m + 1,l => .agg (l.take s) :: chunk s m (l.drop s)
theorem frzWs_eq (n : Nat) (hp : Nat -> Nat -> AV) (hs : Nat -> Nat -> Nat -> Nat -> AV) (l : List AV) : frzWs n hp hs l = l.map (frzW n hp hs) := by
 induction l with
 | nil => rfl
 | cons a l ih => simp [frzWs,ih]
def Cap.lo (n : Nat) : Cap -> Bool
 | .own t => decide (t <= n)
 | _ => true
mutual
def lo (n : Nat) : AV -> Bool
 | .gptr id _ => decide (id <= n)
 | .ref l => los n l
 | .list c l => c.lo n && los n l
 | .sl _ id _ _ _ => decide (id <= n)
 | .agg l => los n l
 | .tup l => los n l
 | .fn f a b => Fn.below (n + 1) f && los n a && los n b
 | .iface _ v => lo n v
 | .map id => decide (id <= n)
 | _ => true
def los (n : Nat) : List AV -> Bool
 | [] => true
 | v :: l => lo n v && los n l
end
mutual
def plain : AV -> Bool
 | .undef | .junk | .int _ _ | .bool _ | .str _ | .nilp | .nilfn | .nilif | .nilmap => true
 | .lptr _ _ _ => false
 | .gptr _ _ => false
 | .ref _ => false
 | .list c l => (decide (c = .any) || decide (c = .nil)) && plains l
 | .sl _ _ _ _ _ => false
 | .agg l => plains l
 | .tup l => plains l
 | .fn (.func _) [] [] => true
 | .fn _ _ _ => false
 | .iface _ v => plain v
 | .map _ => false
def plains : List AV -> Bool
 | [] => true
 | v :: l => plain v && plains l
end
theorem exps_eq (n : Nat) (k : Bool) (l : List AV) : exps n k l = l.map (exp n k) := by
 induction l with
 | nil => rfl
 | cons a l ih => simp [exps,ih]
theorem nols_eq (l : List AV) : nols l = l.map nol := by
 induction l with
 | nil => rfl
 | cons a l ih => simp [nols,ih]
theorem los_eq (n : Nat) (l : List AV) : los n l = l.all (lo n) := by
 induction l with
 | nil => rfl
 | cons a l ih => simp [los,ih]
def getE : List AV -> Nat -> AV
 | [],_ => .undef
 | v :: _,0 => v
 | _ :: l,n + 1 => getE l n
def setE : List AV -> Nat -> AV -> List AV
 | [],0,v => [v]
 | [],n + 1,v => .undef :: setE [] n v
 | _ :: l,0,v => v :: l
 | a :: l,n + 1,v => a :: setE l n v
theorem getE_setE (l : List AV) (i : Nat) (v : AV) (j : Nat) : getE (setE l i v) j = if i = j then v else getE l j := by
 induction i generalizing l j with
 | zero =>
  cases l <;> cases j <;> simp [setE,getE]
 | succ i ih =>
  cases l with
  | nil => cases j with
   | zero => simp [setE,getE]
   | succ j => simp [setE,getE,ih]
  | cons a l => cases j with
   | zero => simp [setE,getE]
   | succ j => simp [setE,getE,ih]
inductive Opd
 | t (n : Nat)
 | c (v : AV)
 | g (n : Nat)
 deriving Inhabited
inductive KK
 | int
 | str
 | bool
 deriving DecidableEq,Inhabited
inductive NK
 | ptr
 | slice
 | fn
 | iface
 | map
 deriving DecidableEq,Inhabited
inductive CK
 | int (k : IntKind)
 | same
 | char
 deriving Inhabited
inductive AO
 | bad
 | mv (x : Opd)
 | pick (c a b : Opd)
 | alloc (glob : Bool) (zero : List AV)
 | box (glob : Bool) (n : Nat) (x : Opd)
 | build (zero : List AV) (parts : List (Nat × Nat × Opd))
 | bslice (ag : Bool) (sz : Nat) (xs : List Opd)
 | ld (ag : Bool) (n : Nat) (a : Opd)
 | st (n : Nat) (a x : Opd)
 | nilck (x : Opd)
 | bin (op : BinOp) (x y : Opd)
 | eqs (neg : Bool) (ks : List KK) (x y : Opd)
 | eqb (neg : Bool) (x y : Opd)
 | isnil (neg : Bool) (k : NK) (x : Opd)
 | un (op : UnOp) (x : Opd)
 | conv (k : CK) (x : Opd)
 | mkif (t : TypeId) (x : Opd)
 | mkfn (f : Fn) (first cap : List Opd)
 | fa (off : Nat) (x : Opd)
 | fld (ag : Bool) (off n : Nat) (x : Opd)
 | ia (sz : Nat) (x i : Opd)
 | iaa (len sz : Nat) (x i : Opd)
 | ixa (ag : Bool) (len sz : Nat) (x i : Opd)
 | ixs (x i : Opd)
 | lookup (kk : KK) (zero : AV) (ok : Bool) (m k : Opd)
 | mapup (kk : KK) (m k v : Opd)
 | mkmap
 | slc (sz : Nat) (x : Opd) (lo hi mx : Option Opd)
 | slcs (x : Opd) (lo hi : Option Opd)
 | ext (x : Opd) (k : Nat)
 | call (f : Opd) (args : List Opd)
 | app (ag : Bool) (sz bytes : Nat) (e : TypeId) (x y : Opd)
 | len (x : Opd)
 | lens (x : Opd)
 | lenm (x : Opd)
 | lenc (n : Nat)
 | mkslc (kd : Nat) (zero : List AV) (bytes : Nat) (n c : Opd)
 | cpy (sz : Nat) (x y : Opd)
 | clr (zero : List AV) (x : Opd)
 | del (kk : KK) (m k : Opd)
 | max (x y : Opd)
 | min (x y : Opd)
 | abld (T e : TypeId)
 | rng (x : Opd)
 | nxt (x : Opd)
 deriving Inhabited
structure AOp where
 dst : Option Nat
 op : AO
 guard : Option (Nat × Bool)
 deriving Inhabited
inductive AC
 | skip
 | ops (l : List AOp)
 | draw (l : List AOp) (cf af : List (Nat × Nat))
 | seq (a b : AC)
 | cond (x : Opd) (a b : AC)
 | block (id : Nat) (a : AC)
 | loop (a : AC)
 | exit (id : Nat)
 | ret
 | rfun (f : Opd) (ps : List Nat) (asg body : AC)
 | pub (ds : List Nat)
 | bad
 deriving Inhabited
inductive LS
 | ready
 | busy
 | done (j : Option Nat)
 deriving DecidableEq,Inhabited
inductive Blk
 | cells (l : List AV)
 | iter (s : List Nat) (pos : Nat)
 | dead
 | bld (T e : TypeId) (s : List Nat)
 | map (es : List (AV × AV))
 | front (n sz : Nat) (e : TypeId)
 | loop (env : List AV) (ps : List Nat) (asg body : AC) (st : LS)
 deriving Inhabited
abbrev Loc := List (Nat × Nat × Blk)
def lget : Loc -> Nat -> Option (Nat × Blk)
 | [],_ => none
 | (d,x) :: l,d' => if d = d' then some x else lget l d'
def lset : Loc -> Nat -> (Nat × Blk) -> Loc
 | [],d,x => [(d,x)]
 | (d,x) :: l,d',x' => if d = d' then (d',x') :: l else (d,x) :: lset l d' x'
theorem lget_lset (l : Loc) (d : Nat) (x : Nat × Blk) (d' : Nat) : lget (lset l d x) d' = if d = d' then some x else lget l d' := by
 induction l with
 | nil => simp [lset,lget]
 | cons a l ih =>
  obtain ⟨e,y⟩ := a
  by_cases h : e = d
  ·subst h
   by_cases h' : e = d' <;> simp [lset,lget,h']
  ·by_cases h' : e = d'
   ·subst h'; simp [lset,lget,h,Ne.symm h]
   ·simp [lset,lget,h,h',ih]
structure Mem where
 blks : List Blk
 touched : List Nat
 deriving Inhabited
def splice (l : List AV) (off : Nat) (vs : List AV) : List AV := l.take off ++ vs ++ l.drop (off + vs.length)
def rd (lk : Nat -> Option (Nat × Blk)) (mem : Mem) (p : AV) (n : Nat) : Option (List AV) :=
 match p with
 | .lptr d v off =>
  match lk d with
  | some (v',.cells l) => if v' = v /\ off + n <= l.length then some ((l.drop off).take n) else none
  | _ => none
 | .gptr id off =>
  match mem.blks[id]? with
  | some (.cells l) => if off + n <= l.length then some ((l.drop off).take n) else none
  | _ => none
 | .ref l => if n <= l.length then some (l.take n) else none
 | _ => none
abbrev Upd := Option (Nat × Nat × Blk)
def Mem.put (m : Mem) (id : Nat) (b : Blk) (ok : Bool) : Mem := { blks := m.blks.set id b,touched := if ok then m.touched else id :: m.touched }
def Mem.push (m : Mem) (b : Blk) : Mem := { m with blks := m.blks ++ [b] }
def Mem.nol (_ : Mem) (v : AV) : AV := Abs.nol v
def wr (lk : Nat -> Option (Nat × Blk)) (mem : Mem) (p : AV) (vs : List AV) : Option (Upd × Mem) :=
 match p with
 | .lptr d v off =>
  match lk d with
  | some (v',.cells l) => if v' = v /\ off + vs.length <= l.length then some (some (d,v,.cells (splice l off vs)),mem) else none
  | _ => none
 | .gptr id off =>
  match mem.blks[id]? with
  | some (.cells l) => if off + vs.length <= l.length then some (none,mem.put id (.cells (splice l off (vs.map mem.nol))) (los id (vs.map mem.nol))) else none
  | _ => none
 | _ => none
def aInt (op : BinOp) (k : IntKind) (a b : Int) : Option AV :=
 match op with
 | .add => some (.int k (k.wrap (a + b)))
 | .sub => some (.int k (k.wrap (a - b)))
 | .mul => some (.int k (k.wrap (a * b)))
 | .quo => if b = 0 then none else some (.int k (k.wrap (a.tdiv b)))
 | .rem => if b = 0 then none else some (.int k (a.tmod b))
 | .and => some (.int k (k.wrap (BitVec.ofInt k.bits a &&& BitVec.ofInt k.bits b).toNat))
 | .or => some (.int k (k.wrap (BitVec.ofInt k.bits a ||| BitVec.ofInt k.bits b).toNat))
 | .xor => some (.int k (k.wrap (BitVec.ofInt k.bits a ^^^ BitVec.ofInt k.bits b).toNat))
 | .andNot => some (.int k (k.wrap (BitVec.ofInt k.bits a &&& ~~~BitVec.ofInt k.bits b).toNat))
 | .eql => some (.bool (a == b))
 | .neq => some (.bool (a != b))
 | .lss => some (.bool (decide (a < b)))
 | .leq => some (.bool (decide (a <= b)))
 | .gtr => some (.bool (decide (a > b)))
 | .geq => some (.bool (decide (a ≥ b)))
 | _ => none
def natsLess : List Nat -> List Nat -> Bool
 | _,[] => false
 | [],_ :: _ => true
 | a :: x,b :: y => decide (a < b) || (decide (a = b) && natsLess x y)
def aStr (op : BinOp) (a b : List Nat) : Option AV :=
 match op with
 | .add => if ((a.length + b.length : Nat) : Int) > IntKind.i64.max then none else some (.str (a ++ b))
 | .eql => some (.bool (decide (a = b)))
 | .neq => some (.bool (!decide (a = b)))
 | .lss => some (.bool (natsLess a b))
 | .leq => some (.bool (natsLess a b || decide (a = b)))
 | .gtr => some (.bool (!(natsLess a b || decide (a = b))))
 | .geq => some (.bool (!natsLess a b))
 | _ => none
def aBin (op : BinOp) (x y : AV) : Option AV :=
 match x,y with
 | .int k a,.int k' b =>
  match op with
  | .shl => if b < 0 then none else some (.int k (k.wrap (a * 2 ^ Nat.min b.toNat k.bits)))
  | .shr => if b < 0 then none else some (.int k (a.fdiv (2 ^ Nat.min b.toNat k.bits)))
  | _ => if k = k' then aInt op k a b else none
 | .str a,.str b => aStr op a b
 | _,_ => none
def eqCells : List KK -> List AV -> List AV -> Option Bool
 | [],[],[] => some true
 | .int :: ks,.int k a :: l,.int k' b :: l' => if k = k' then (eqCells ks l l').map (decide (a = b) && ·) else none
 | .str :: ks,.str a :: l,.str b :: l' => (eqCells ks l l').map (decide (a = b) && ·)
 | .bool :: ks,.bool a :: l,.bool b :: l' => (eqCells ks l l').map ((a == b) && ·)
 | _,_,_ => none
def isNil : NK -> AV -> Option Bool
 | .ptr,.nilp => some true
 | .ptr,.lptr _ _ _ => some false
 | .ptr,.gptr _ _ => some false
 | .ptr,.ref _ => some false
 | .slice,.list .nil _ => some true
 | .slice,.list _ _ => some false
 | .slice,.sl _ _ _ _ _ => some false
 | .fn,.nilfn => some true
 | .fn,.fn _ _ _ => some false
 | .iface,.nilif => some true
 | .iface,.iface _ _ => some false
 | .map,.nilmap => some true
 | .map,.map _ => some false
 | _,_ => none
def aUn (op : UnOp) (x : AV) : Option AV :=
 match op,x with
 | .neg,.int k n => some (.int k (k.wrap (0 - n)))
 | .not,.bool b => some (.bool !b)
 | _,_ => none
def aConv (k : CK) (x : AV) : Option AV :=
 match k,x with
 | .int k,.int _ n => some (.int k (k.wrap n))
 | .same,.str s => some (.str s)
 | .char,.int _ n => some (.str ((Utf8.encode n).data.toList.map UInt8.toNat))
 | _,_ => none
def shaped (ag : Bool) (sz : Nat) : AV -> Bool
 | .agg l => ag && decide (l.length = sz)
 | v => !ag && v.one && decide (sz = 1)
def single : List AV -> Option AV
 | [v] => some v
 | _ => none
def asElem (ag : Bool) (l : List AV) : Option AV := if ag then some (.agg l) else single l
def keyEq : AV -> AV -> Option Bool
 | .str a,.str b => some (decide (a = b))
 | .int k a,.int k' b => if k = k' then some (decide (a = b)) else none
 | .bool a,.bool b => some (a == b)
 | _,_ => none
def mfind (k : AV) : List (AV × AV) -> Option (Option AV)
 | [] => some none
 | (k',v) :: l => match keyEq k k' with
  | some true => some (some v)
  | some false => mfind k l
  | none => none
def mset (k v : AV) : List (AV × AV) -> Option (List (AV × AV))
 | [] => some [(k,v)]
 | (k',v') :: l => match keyEq k k' with
  | some true => some ((k,v) :: l)
  | some false => (mset k v l).map ((k',v') :: ·)
  | none => none
def mdel (k : AV) : List (AV × AV) -> Option (List (AV × AV))
 | [] => some []
 | (k',v') :: l => match keyEq k k' with
  | some true => some l
  | some false => (mdel k l).map ((k',v') :: ·)
  | none => none
def isKey : KK -> AV -> Bool
 | .str,.str _ => true
 | .int,.int _ _ => true
 | .bool,.bool _ => true
 | _,_ => false
def bound (ev : Opd -> AV) (top : Nat) : Option Opd -> Nat -> Option Nat
 | none,dflt => some dflt
 | some x,_ => match ev x with
  | .int _ n => if 0 <= n /\ n <= top then some n.toNat else none
  | _ => none
def padd (p : AV) (off : Nat) : Option AV :=
 match p with
 | .lptr d v o => some (.lptr d v (o + off))
 | .gptr id o => some (.gptr id (o + off))
 | .ref l => if off <= l.length then some (.ref (l.drop off)) else none
 | _ => none
def fills (ev : Opd -> AV) : List (Nat × Nat × Opd) -> List AV -> Option (List AV)
 | [],cs => some cs
 | (off,size,x) :: rest,cs =>
  if (ev x).cells.length = size /\ off + size <= cs.length then fills ev rest (splice cs off (ev x).cells) else none
def newVer (lk : Nat -> Option (Nat × Blk)) (d : Nat) : Nat :=
 match lk d with
 | none => 0
 | some (v,_) => v + 1
def newVar (lk : Nat -> Option (Nat × Blk)) (mem : Mem) (glob : Bool) (dst : Option Nat) (b : List AV) : Option (AV × Upd × Mem) :=
 if glob then some (.gptr mem.blks.length 0,none,mem.push (.cells (b.map mem.nol)))
 else match dst with
  | some d => some (.lptr d (newVer lk d) 0,some (d,newVer lk d,.cells b),mem)
  | none => none
def frz (bs : List Blk) (n : Nat) : Nat -> AV -> AV
 | 0 => exp n false
 | k + 1 => frzW n
   (fun id off => match bs[id]? with
    | some (.cells l) => .ref ((l.drop off).map (frz bs n k))
    | _ => .junk)
   (fun kd id off m => match bs[id]? with
    | some (.cells l) => if off + m * Nat.max kd 1 <= l.length then
      (if kd = 0 then (if ((l.drop off).take m).all AV.one then .list .any (((l.drop off).take m).map (frz bs n k)) else .junk)
      else .list .any (chunk kd m ((l.drop off).map (frz bs n k))))
     else .junk
    | _ => .junk)
def rep : Nat -> List AV -> List AV
 | 0,_ => []
 | n + 1,z => z ++ rep n z
def cellsOf (mem : Mem) (sz : Nat) : AV -> Option (Nat × List AV)
 | .list _ l => if l.all (fun e => decide (e.cells.length = sz)) then some (l.length,l.flatMap AV.cells) else none
 | .sl _ id off n _ => match mem.blks[id]? with
  | some (.cells l) => if off + n * sz <= l.length then some (n,(l.drop off).take (n * sz)) else none
  | _ => none
 | _ => none
abbrev CallV := AV -> List AV -> Mem -> Option (AV × Mem)
def aApp (mem : Mem) (ag : Bool) (sz bytes : Nat) (e : TypeId) (x y : AV) : Option (AV × Mem) :=
 match x,y with
 | .list c l,.list _ m =>
  if m.all (shaped ag sz) && l.all (shaped ag sz) && decide (0 < sz) && decide ((l.length + m.length) * bytes <= 140737488355328) && decide (l.length + m.length <= 140737488355328) then
   match c,m with
   | c,[] => some (.list c l,mem)
   | .full,m => some (.list (.own mem.blks.length) (l ++ m.map mem.nol),mem.push (.front (l.length + m.length) sz e))
   | .nil,m => some (.list (.own mem.blks.length) (l ++ m.map mem.nol),mem.push (.front (l.length + m.length) sz e))
   | .own t,m => match mem.blks[t]? with
    | some (.front n sz' e') => if n = l.length /\ sz' = sz /\ e' = e then some (.list (.own t) (l ++ m.map mem.nol),mem.put t (.front (l.length + m.length) sz e) true) else none
    | _ => none
   | .any,_ => none
  else none
 | _,_ => none
def aop (ev : Opd -> AV) (lk : Nat -> Option (Nat × Blk)) (mem : Mem) (callv : CallV) (dst : Option Nat) (o : AO) : Option (AV × Upd × Mem) :=
 match o with
 | .bad => none
 | .mv x => some (ev x,none,mem)
 | .pick c a b => match ev c with
  | .bool t => some (if t then ev a else ev b,none,mem)
  | _ => none
 | .alloc glob z => newVar lk mem glob dst z
 | .abld T e => some (.gptr mem.blks.length 0,none,mem.push (.bld T e []))
 | .box glob n x => if (ev x).cells.length = n then newVar lk mem glob dst (ev x).cells else none
 | .build z parts => (fills ev parts z).map fun l => (.agg l,none,mem)
 | .bslice ag sz xs =>
  if xs.all fun x => shaped ag sz (ev x) then some (.list .full (xs.map fun x => mem.nol (ev x)),none,mem) else none
 | .ld ag n a => match rd lk mem (ev a) n with
  | some l => (asElem ag l).map fun v => (v,none,mem)
  | none => none
 | .st n a x => if (ev x).cells.length = n then (wr lk mem (ev a) (ev x).cells).map fun (u,m) => (.undef,u,m) else none
 | .nilck x => match ev x with
  | .lptr d v o => some (.lptr d v o,none,mem)
  | .gptr id o => some (.gptr id o,none,mem)
  | .ref l => some (.ref l,none,mem)
  | .fn (.func f) a b => some (.fn (.func f) a b,none,mem)
  | .fn (.yield f) a b => some (.fn (.yield f) a b,none,mem)
  | _ => none
 | .bin op x y => (aBin op (ev x) (ev y)).map fun v => (v,none,mem)
 | .eqs neg ks x y => match ev x,ev y with
  | .agg a,.agg b => (eqCells ks a b).map fun t => (.bool (if neg then !t else t),none,mem)
  | _,_ => none
 | .eqb neg x y => match ev x,ev y with
  | .bool a,.bool b => some (.bool (if neg then !(a == b) else a == b),none,mem)
  | _,_ => none
 | .isnil neg k x => (isNil k (ev x)).map fun t => (.bool (if neg then !t else t),none,mem)
 | .un op x => (aUn op (ev x)).map fun v => (v,none,mem)
 | .conv k x => (aConv k (ev x)).map fun v => (v,none,mem)
 | .mkif t x => some (.iface t (ev x),none,mem)
 | .mkfn f a b => some (.fn f (a.map ev) (b.map ev),none,mem)
 | .fa off x => (padd (ev x) off).map fun v => (v,none,mem)
 | .fld ag off n x => match ev x with
  | .agg l => if off + n <= l.length then (asElem ag ((l.drop off).take n)).map fun v => (v,none,mem) else none
  | _ => none
 | .ia sz x i => match ev x,ev i with
  | .list _ l,.int _ n => if 0 <= n /\ n < l.length then
    match l[n.toNat]? with
    | some e => if e.cells.length = sz then some (.ref e.cells,none,mem) else none
    | none => none
   else none
  | .sl _ id off m _,.int _ n => if 0 <= n /\ n < m then some (.gptr id (off + n.toNat * sz),none,mem) else none
  | _,_ => none
 | .iaa len sz x i => match ev i with
  | .int _ n => if 0 <= n /\ n < len then (padd (ev x) (n.toNat * sz)).map fun v => (v,none,mem) else none
  | _ => none
 | .ixa ag len sz x i => match ev x,ev i with
  | .agg l,.int _ n => if 0 <= n /\ n < len /\ l.length = len * sz then (asElem ag ((l.drop (n.toNat * sz)).take sz)).map fun v => (v,none,mem) else none
  | _,_ => none
 | .ixs x i => match ev x,ev i with
  | .str s,.int _ n => if 0 <= n then (s[n.toNat]?).map fun (b : Nat) => (AV.int .u8 (Int.ofNat b),none,mem) else none
  | _,_ => none
 | .lookup kk zero ok m k => match ev m with
  | .nilmap => if isKey kk (ev k) then some (if ok then .tup [zero,.bool false] else zero,none,mem) else none
  | .map id => match mem.blks[id]? with
   | some (.map es) => if isKey kk (ev k) then (mfind (ev k) es).map fun r => match r with
     | some v => (if ok then .tup [v,.bool true] else v,none,mem)
     | none => (if ok then .tup [zero,.bool false] else zero,none,mem)
    else none
   | _ => none
  | _ => none
 | .mapup kk m k v => match ev m with
  | .map id => match mem.blks[id]? with
   | some (.map es) => if isKey kk (ev k) && plain (ev v) then (mset (ev k) (ev v) es).map fun es' => (.undef,none,mem.put id (.map es') true) else none
   | _ => none
  | _ => none
 | .mkmap => some (.map mem.blks.length,none,mem.push (.map []))
 | .slc sz x lo hi mx => match ev x with
  | .list c l => if l.all fun e => decide (e.cells.length = sz) then
    match bound ev l.length mx l.length with
    | some m => match bound ev m hi l.length with
     | some h => match bound ev h lo 0 with
      | some b => some (.list (if c = .nil then .nil else if mx.isSome then (if m = h then .full else .any) else if c = .full /\ h = l.length then .full else .any) ((l.take h).drop b),none,mem)
      | none => none
     | none => none
    | none => none
   else none
  | _ => none
 | .slcs x lo hi => match ev x with
  | .str s => match bound ev s.length hi s.length with
   | some h => match bound ev h lo 0 with
    | some b => some (.str ((s.take h).drop b),none,mem)
    | none => none
   | none => none
  | _ => none
 | .ext x k => match ev x with
  | .tup l => (l[k]?).map fun v => (v,none,mem)
  | _ => none
 | .call f args => (callv (ev f) (args.map ev) mem).map fun (v,m) => (v,none,m)
 | .app ag sz bytes e x y => (aApp mem ag sz bytes e (ev x) (ev y)).map fun (v,m) => (v,none,m)
 | .len x => match ev x with
  | .list _ l => some (.int .i64 l.length,none,mem)
  | .sl _ _ _ n _ => some (.int .i64 n,none,mem)
  | _ => none
 | .mkslc kd z bytes n c => match ev n,ev c with
  | .int _ n,.int _ c => if 0 <= n /\ n <= c /\ (bytes : Int) * c <= 281474976710656 /\ c <= 9223372036854775807 then
    some (.sl kd mem.blks.length 0 n.toNat c.toNat,none,mem.push (.cells ((rep c.toNat z).map mem.nol)))
   else none
  | _,_ => none
 | .cpy sz x y => match ev x with
  | .sl _ id off n _ => match cellsOf mem sz (ev y) with
   | some (k,cs) => (wr (fun _ => none) mem (.gptr id off) (cs.take (Nat.min k n * sz))).map fun (_,m) => (.int .i64 (Nat.min k n : Nat),none,m)
   | none => none
  | _ => none
 | .clr z x => match ev x with
  | .list _ [] => some (.undef,none,mem)
  | .sl _ id off n _ => if n = 0 then some (.undef,none,mem) else (wr (fun _ => none) mem (.gptr id off) (rep n z)).map fun (_,m) => (.undef,none,m)
  | _ => none
 | .lens x => match ev x with
  | .str s => some (.int .i64 s.length,none,mem)
  | _ => none
 | .lenc n => some (.int .i64 n,none,mem)
 | .lenm x => match ev x with
  | .nilmap => some (.int .i64 0,none,mem)
  | .map id => match mem.blks[id]? with
   | some (.map es) => some (.int .i64 es.length,none,mem)
   | _ => none
  | _ => none
 | .del kk m k => match ev m with
  | .map id => match mem.blks[id]? with
   | some (.map es) => if isKey kk (ev k) then (mdel (ev k) es).map fun es' => (.undef,none,mem.put id (.map es') true) else none
   | _ => none
  | _ => none
 | .max x y => match ev x,ev y with
  | .int k a,.int k' b => if k = k' then some (.int k (if b > a then b else a),none,mem) else none
  | _,_ => none
 | .min x y => match ev x,ev y with
  | .int k a,.int k' b => if k = k' then some (.int k (if b < a then b else a),none,mem) else none
  | _,_ => none
 | .rng x => match ev x,dst with
  | .str s,some d => some (.lptr d (newVer lk d) 0,some (d,newVer lk d,.iter s 0),mem)
  | _,_ => none
 | .nxt x => match ev x with
  | .lptr d v 0 => match lk d with
   | some (v',.iter s pos) => if v' = v then
     if pos < s.length then
      let r := Utf8.decode ⟨(s.map UInt8.ofNat).toArray⟩ pos
      some (.tup [.bool true,.int .i64 pos,.int .i32 r.1],some (d,v,.iter s (pos + r.2)),mem)
     else some (.tup [.bool false],none,mem)
    else none
   | _ => none
  | _ => none
end Go.Abs
namespace Go.Abs
inductive Ex
 | normal
 | exit (id : Nat)
 | ret
 deriving DecidableEq,Inhabited
structure St where
 env : List AV
 loc : Loc
 mem : Mem
 deriving Inhabited
def evO (gl : Nat -> AV) (env : List AV) : Opd -> AV
 | .t n => getE env n
 | .c v => v
 | .g n => gl n
def wantedA (env : List AV) : Option (Nat × Bool) -> Option Bool
 | none => some true
 | some (d,want) => match getE env d with
  | .bool b => some (b == want)
  | .undef => some false
  | _ => none
def setO (env : List AV) : Option Nat -> AV -> List AV
 | none,_ => env
 | some d,v => setE env d v
def setU (loc : Loc) : Upd -> Loc
 | none => loc
 | some (d,v,b) => lset loc d (v,b)
def astep (gl : Nat -> AV) (callv : CallV) (o : AOp) (s : St) : Option St :=
 match wantedA s.env o.guard with
 | none => none
 | some true => match aop (evO gl s.env) (lget s.loc) s.mem callv o.dst o.op with
  | some (v,u,m) => some { env := setO s.env o.dst v,loc := setU s.loc u,mem := m }
  | none => none
 | some false => some { s with env := setO s.env o.dst .undef }
def aops (gl : Nat -> AV) (callv : CallV) : List AOp -> St -> Option St
 | [],s => some s
 | o :: l,s => match astep gl callv o s with
  | some s' => aops gl callv l s'
  | none => none
def ascan (gl : Nat -> AV) (callv : CallV) : List AOp -> St -> Option (List St)
 | [],s => some [s]
 | o :: l,s => match astep gl callv o s with
  | some s' => (ascan gl callv l s').map (s :: ·)
  | none => none
def eqRd : Option (List AV) -> Option (List AV) -> Bool
 | some a,some b => AV.beqs a b
 | _,_ => false
def isSt (l : List AOp) (j : Nat) : Bool := match l[j]? with
 | some o => match o.op with
  | .st _ _ _ => true
  | _ => false
 | none => false
def chkLoad (gl : Nat -> AV) (l : List AOp) (tr : List St) (i j : Nat) : Bool :=
 match l[i]?,tr[i]?,tr[j]?,tr[j + 1]? with
 | some o,some si,some sj,some sj' =>
  match wantedA si.env o.guard,o.op with
  | some false,_ => true
  | _,.ld _ n a => match evO gl si.env a with
   | .gptr id off => eqRd (rd (fun _ => none) sj.mem (.gptr id off) n) (rd (fun _ => none) si.mem (.gptr id off) n) &&
     eqRd (rd (fun _ => none) sj'.mem (.gptr id off) n) (rd (fun _ => none) si.mem (.gptr id off) n)
   | .lptr d v off => !(isSt l j) || eqRd (rd (lget sj.loc) { blks := [],touched := [] } (.lptr d v off) n) (rd (lget si.loc) { blks := [],touched := [] } (.lptr d v off) n) &&
     eqRd (rd (lget sj'.loc) { blks := [],touched := [] } (.lptr d v off) n) (rd (lget si.loc) { blks := [],touched := [] } (.lptr d v off) n)
   | _ => true
  | _,_ => false
 | _,_,_,_ => false
def chkNew (gl : Nat -> AV) (l : List AOp) (tr : List St) (i j : Nat) : Bool :=
 match l[i]?,l[j]?,tr[j]? with
 | some oi,some o,some sj => match o.op with
  | .ld _ _ a => match evO gl sj.env a with
   | .lptr d _ _ => oi.dst != some d
   | _ => true
  | _ => false
 | _,_,_ => false
def adraw (gl : Nat -> AV) (callv : CallV) (l : List AOp) (cf af : List (Nat × Nat)) (s : St) : Option St :=
 match ascan gl callv l s with
 | some tr => if cf.all (fun p => chkLoad gl l tr p.1 p.2) && af.all (fun p => chkNew gl l tr p.1 p.2) then tr.getLast? else none
 | none => none
abbrev LoopV := (St -> Option (Ex × St)) -> St -> Option (Ex × St)
def Blk.scrub (n : Nat) : Blk -> Blk
 | .cells l => .cells (l.map (exp n true))
 | b => b
def Blk.clean (id : Nat) : Blk -> Bool
 | .cells l => los id l
 | _ => true
def scrubs (n : Nat) : List Nat -> List Blk -> List Blk
 | [],bs => bs
 | i :: l,bs => scrubs n l (match bs[i]? with
  | some b => bs.set i (b.scrub n)
  | none => bs)
def Mem.back (m0 m : Mem) : Mem :=
 let n := m0.blks.length
 let bs := scrubs n m.touched (m.blks.take n)
 { blks := bs,touched := m0.touched ++ m.touched.filter fun i => match bs[i]? with
   | some b => !b.clean i
   | none => false }
def AV.isFunc : AV -> Option AV
 | .fn (.func f) a b => some (.fn (.func f) a b)
 | _ => none
def pub1 (d : Nat) (s : St) : Option St :=
 match getE s.env d with
 | .lptr d' v 0 => match lget s.loc d with
  | some (v',.cells l) => if d' = d /\ v' = v then
    some { env := setE s.env d (.gptr s.mem.blks.length 0),loc := lset s.loc d (v,.dead),mem := s.mem.push (.cells (l.map s.mem.nol)) } else none
  | _ => none
 | _ => none
def pubs : List Nat -> St -> Option St
 | [],s => some s
 | d :: l,s => match pub1 d s with
  | some s' => pubs l s'
  | none => none
def exec (gl : Nat -> AV) (callv : CallV) (lp : LoopV) : AC -> St -> Option (Ex × St)
 | .skip,s => some (.normal,s)
 | .ops l,s => (aops gl callv l s).map fun s' => (.normal,s')
 | .draw l cf af,s => (adraw gl callv l cf af s).map fun s' => (.normal,s')
 | .seq a b,s => match exec gl callv lp a s with
  | some (.normal,s') => exec gl callv lp b s'
  | r => r
 | .cond x a b,s => match evO gl s.env x with
  | .bool t => if t then exec gl callv lp a s else exec gl callv lp b s
  | _ => none
 | .block id a,s => match exec gl callv lp a s with
  | some (.exit i,s') => if i = id then some (.normal,s') else some (.exit i,s')
  | r => r
 | .loop a,s => lp (exec gl callv lp a) s
 | .exit id,s => some (.exit id,s)
 | .ret,s => some (.ret,s)
 | .rfun f ps asg body,s =>
  match (evO gl s.env f).isFunc.bind fun f => callv f [.fn (.yield s.mem.blks.length) [] []] { blks := s.mem.blks ++ [.loop (s.env.map s.mem.nol) ps asg body .ready],touched := [] } with
  | some (_,m) => match m.blks[s.mem.blks.length]? with
   | some (.loop _ _ _ _ .ready) => some (.normal,{ s with mem := s.mem.back m })
   | some (.loop _ _ _ _ (.done none)) => some (.ret,{ s with mem := s.mem.back m })
   | some (.loop _ _ _ _ (.done (some i))) => some (.exit i,{ s with mem := s.mem.back m })
   | _ => none
  | none => none
 | .pub ds,s => (pubs ds s).map fun s' => (.normal,s')
 | .bad,_ => none
def aloop : Nat -> LoopV
 | 0,_,_ => none
 | n + 1,body,s => match body s with
  | some (.normal,s') => aloop n body s'
  | r => r
inductive RV
 | tmp (t : Nat)
 | cell (a : Nat) (ag : Bool) (n : Nat)
 deriving Inhabited
structure AF where
 ntmps : Nat
 results : List RV
 code : AC
 deriving Inhabited
abbrev Prim := List AV -> Mem -> Option (AV × Mem)
structure Cfg where
 gl : Nat -> AV
 fs : Nat -> Option AF
 prim : Nat -> Option Prim
 keep : Nat -> Bool
def RV.get (s : St) : RV -> Option AV
 | .tmp t => some (getE s.env t)
 | .cell a ag n => match rd (lget s.loc) s.mem (getE s.env a) n with
  | some l => asElem ag l
  | none => none
def gets (s : St) : List RV -> Option (List AV)
 | [] => some []
 | r :: l => match r.get s with
  | some v => (gets s l).map (v :: ·)
  | none => none
def tupled : List AV -> AV
 | [v] => v
 | l => .tup l
def fin (g : AF) (keep : Bool) (m0 : Mem) : Option (Ex × St) -> Option (AV × Mem)
 | some (.exit _,_) => none
 | some (_,s) => match gets s g.results with
  | some l => if keep then some (exp s.mem.blks.length true (tupled l),{ blks := s.mem.blks,touched := m0.touched ++ s.mem.touched })
    else some (frz s.mem.blks m0.blks.length 8 (tupled l),m0.back s.mem)
  | none => none
 | none => none
def setPs : List AV -> List Nat -> List AV -> List AV
 | env,[],_ => env
 | env,_,[] => env
 | env,p :: ps,v :: vs => setPs (setE env p v) ps vs
def Mem.setLS (m : Mem) (l : Nat) (st : LS) : Mem :=
 match m.blks[l]? with
 | some (.loop env ps asg body _) => { m with blks := m.blks.set l (.loop env ps asg body st) }
 | _ => m
def Mem.ls (m : Mem) (l : Nat) : Option LS :=
 match m.blks[l]? with
 | some (.loop _ _ _ _ st) => some st
 | _ => none
def round (ex : AC -> St -> Option (Ex × St)) (l : Nat) (args : List AV) (mem : Mem) : Option (AV × Mem) :=
 match mem.blks[l]? with
 | some (.loop env ps asg body _) =>
  if ps.length = args.length then
   match ex asg { env := setPs env ps (args.map (exp mem.blks.length false)),loc := [],mem := mem } with
   | some (.normal,s1) =>
    if s1.mem.ls l = some .ready then
     match ex body { s1 with mem := s1.mem.setLS l .busy } with
     | some (.normal,s2) => if s2.mem.ls l = some .busy then some (.bool true,s2.mem.setLS l .ready) else none
     | some (.ret,s2) => if s2.mem.ls l = some .busy then some (.bool false,s2.mem.setLS l (.done none)) else none
     | some (.exit i,s2) => if s2.mem.ls l = some .busy then some (.bool false,s2.mem.setLS l (.done (some i))) else none
     | none => none
    else none
   | _ => none
  else none
 | _ => none
def body (C : Cfg) (callv : CallV) (lp : LoopV) : CallV := fun fv args mem =>
 match fv with
 | .fn (.func f) first cap =>
  match C.prim f with
  | some p => p ((first ++ args ++ cap).map (exp mem.blks.length (C.keep f))) mem
  | none => match C.fs f with
   | some g => fin g (C.keep f) mem (exec C.gl callv lp g.code
     { env := (first ++ args ++ cap).map (exp mem.blks.length (C.keep f)),loc := [],mem := { blks := mem.blks,touched := [] } })
   | none => none
 | .fn (.yield l) [] [] => round (exec C.gl callv lp) l args mem
 | _ => none
def cv (C : Cfg) : Nat -> CallV
 | 0 => fun _ _ _ => none
 | n + 1 => body C (cv C n) (aloop n)
def CallV.le (c c' : CallV) : Prop := ∀ fv args mem r,c fv args mem = some r -> c' fv args mem = some r
def LoopV.le (l l' : LoopV) : Prop := ∀ b b' : St -> Option (Ex × St),(∀ s r,b s = some r -> b' s = some r) -> ∀ s r,l b s = some r -> l' b' s = some r
theorem aop_mono {ev lk mem dst o r} {c c' : CallV} (h : c.le c') (hr : aop ev lk mem c dst o = some r) : aop ev lk mem c' dst o = some r := by
 cases o <;> try exact hr
 case call f args =>
  simp only [aop,Option.map_eq_some_iff] at hr ⊢
  obtain ⟨x,hx,rfl⟩ := hr
  exact ⟨x,h _ _ _ _ hx,rfl⟩
theorem astep_mono {gl o s r} {c c' : CallV} (h : c.le c') (hr : astep gl c o s = some r) : astep gl c' o s = some r := by
 unfold astep at hr ⊢
 split at hr
 ·cases hr
 ·split at hr
  ·rename_i he; rw [aop_mono h he]; exact hr
  ·cases hr
 ·exact hr
theorem aops_mono {gl l s r} {c c' : CallV} (h : c.le c') (hr : aops gl c l s = some r) : aops gl c' l s = some r := by
 induction l generalizing s with
 | nil => exact hr
 | cons o l ih =>
  simp only [aops] at hr ⊢
  split at hr
  ·rename_i he; rw [astep_mono h he]; exact ih hr
  ·cases hr
theorem ascan_mono {gl l s r} {c c' : CallV} (h : c.le c') (hr : ascan gl c l s = some r) : ascan gl c' l s = some r := by
 induction l generalizing s r with
 | nil => exact hr
 | cons o l ih =>
  simp only [ascan] at hr ⊢
  split at hr
  ·rename_i he
   rw [astep_mono h he]
   simp only [Option.map_eq_some_iff] at hr ⊢
   obtain ⟨x,hx,rfl⟩ := hr
   exact ⟨x,ih hx,rfl⟩
  ·cases hr
theorem adraw_mono {gl l cf af s r} {c c' : CallV} (h : c.le c') (hr : adraw gl c l cf af s = some r) : adraw gl c' l cf af s = some r := by
 unfold adraw at hr ⊢
 split at hr
 ·rename_i he; rw [ascan_mono h he]; exact hr
 ·cases hr
theorem exec_mono {gl} {c c' : CallV} {l l' : LoopV} (h : c.le c') (hl : l.le l') (a : AC) : ∀ s r,exec gl c l a s = some r -> exec gl c' l' a s = some r := by
 induction a with
 | skip => intro s r hr; exact hr
 | ops x =>
  intro s r hr
  simp only [exec,Option.map_eq_some_iff] at hr ⊢
  obtain ⟨x,hx,rfl⟩ := hr
  exact ⟨x,aops_mono h hx,rfl⟩
 | draw x cf af =>
  intro s r hr
  simp only [exec,Option.map_eq_some_iff] at hr ⊢
  obtain ⟨x,hx,rfl⟩ := hr
  exact ⟨x,adraw_mono h hx,rfl⟩
 | seq a b iha ihb =>
  intro s r hr
  simp only [exec] at hr ⊢
  split at hr
  ·rename_i he; rw [iha _ _ he]; exact ihb _ _ hr
  ·rename_i hne
   rw [iha _ _ hr]
   split
   ·rename_i he; rw [he] at hr; exact absurd hr (hne _)
   ·rfl
 | cond x a b iha ihb =>
  intro s r hr
  simp only [exec] at hr ⊢
  split at hr
  ·split at hr
   ·rename_i he ht; simp only [ht,if_true]; exact iha _ _ hr
   ·rename_i he ht; simp only [ht]; exact ihb _ _ hr
  ·cases hr
 | block id a iha =>
  intro s r hr
  simp only [exec] at hr ⊢
  split at hr
  ·rename_i he; rw [iha _ _ he]; exact hr
  ·rename_i hne
   rw [iha _ _ hr]
   split
   ·rename_i he; rw [he] at hr; exact absurd hr (hne _ _)
   ·rfl
 | loop a iha =>
  intro s r hr
  simp only [exec] at hr ⊢
  exact hl _ _ iha _ _ hr
 | exit id => intro s r hr; exact hr
 | ret => intro s r hr; exact hr
 | rfun f ps asg body _ _ =>
  intro s r hr
  simp only [exec] at hr ⊢
  split at hr
  ·rename_i he
   obtain ⟨fv,h1,h2⟩ := Option.bind_eq_some_iff.1 he
   rw [h1]
   simp only [Option.bind_some,h _ _ _ _ h2]; exact hr
  ·cases hr
 | pub ds => intro s r hr; exact hr
 | bad => intro s r hr; exact hr
theorem aloop_mono (n n' : Nat) (h : n <= n') : LoopV.le (aloop n) (aloop n') := by
 intro b b' hb s r hr
 induction n generalizing n' s with
 | zero => simp [aloop] at hr
 | succ n ih =>
  obtain ⟨m,rfl⟩ : ∃ m,n' = m + 1 := ⟨n' - 1,by omega⟩
  simp only [aloop] at hr ⊢
  split at hr
  ·rename_i he; rw [hb _ _ he]; exact ih m (by omega) _ hr
  ·rename_i hne
   rw [hb _ _ hr]
   split
   ·rename_i he; rw [he] at hr; exact absurd hr (hne _)
   ·rfl
theorem round_mono {e e' : AC -> St -> Option (Ex × St)} (h : ∀ a s r,e a s = some r -> e' a s = some r) {l args mem r} (hr : round e l args mem = some r) : round e' l args mem = some r := by
 unfold round at hr ⊢
 split at hr
 ·split at hr
  ·rename_i hlen
   simp only [hlen,if_true]
   split at hr
   ·rename_i he
    rw [h _ _ _ he]
    dsimp only at hr ⊢
    split at hr
    ·rename_i hls
     simp only [hls,if_true]
     split at hr
     ·rename_i he2; simp only [h _ _ _ he2]; exact hr
     ·rename_i he2; simp only [h _ _ _ he2]; exact hr
     ·rename_i he2; simp only [h _ _ _ he2]; exact hr
     ·cases hr
    ·cases hr
   ·cases hr
  ·cases hr
 ·cases hr
theorem body_mono {C : Cfg} {c c' : CallV} {l l' : LoopV} (h : c.le c') (hl : l.le l') : (body C c l).le (body C c' l') := by
 intro fv args mem r hr
 unfold body at hr ⊢
 split at hr
 ·split at hr
  ·exact hr
  ·split at hr
   ·rename_i hg
    generalize he : exec C.gl c l _ _ = x at hr
    cases x with
    | none => simp [fin] at hr
    | some x => simp only [exec_mono h hl _ _ _ he]; exact hr
   ·cases hr
 ·exact round_mono (fun a s r => exec_mono h hl a s r) hr
 ·cases hr
theorem cv_mono_succ (C : Cfg) (n : Nat) : (cv C n).le (cv C (n + 1)) := by
 induction n with
 | zero => intro fv args mem r hr; simp [cv] at hr
 | succ n ih => exact body_mono ih (aloop_mono _ _ (by omega))
theorem cv_mono (C : Cfg) {n n' : Nat} (h : n <= n') : (cv C n).le (cv C n') := by
 induction h with
 | refl => exact fun _ _ _ _ h => h
 | step _ ih => exact fun _ _ _ _ h => cv_mono_succ C _ _ _ _ _ (ih _ _ _ _ h)
end Go.Abs
namespace Go.Abs
structure Gh where
 im : Nat -> Nat -> Option Value
 mb : Nat -> Option Nat
 rows : Nat -> Nat -> Option (Nat × Nat)
abbrev LB := Nat -> Nat -> Option Nat
def Gh.sub (g g' : Gh) : Prop :=
 (∀ b o x,g.im b o = some x -> g'.im b o = some x) /\ (∀ id b,g.mb id = some b -> g'.mb id = some b) /\ (∀ t n x,g.rows t n = some x -> g'.rows t n = some x)
def Gh.cut (g : Gh) (n : Nat) : Gh :=
 { im := g.im,mb := fun id => if id < n then g.mb id else none,rows := fun t m => if t < n then g.rows t m else none }
def capOK (g : Gh) (n b o cap : Nat) : Cap -> Prop
 | .any => True
 | .full => cap = n
 | .nil => False
 | .own t => o = 0 /\ g.rows t n = some (b,cap)
def noLB : LB := fun _ _ => none
def FnR (mb : Nat -> Option Nat) : Fn -> Fn -> Prop
 | .func f,.func f' => f' = f
 | .yield i,.yield b => mb i = some b
 | _,_ => False
theorem FnR.mono {mb mb' : Nat -> Option Nat} (hm : ∀ i b,mb i = some b -> mb' i = some b) {f f' : Fn} (h : FnR mb f f') : FnR mb' f f' := by
 cases f <;> cases f' <;> first | exact h | exact hm _ _ h | exact h.elim
inductive VR (g : Gh) : LB -> AV -> Value -> Prop
 | undef (lb : LB) : VR g lb .undef (.tuple #[])
 | junk (lb : LB) (x : Value) (h : x.oneCell' = true) : VR g lb .junk x
 | int (lb : LB) (k : IntKind) (n : Int) : VR g lb (.int k n) (.int k n)
 | bool (lb : LB) (b : Bool) : VR g lb (.bool b) (.bool b)
 | str (lb : LB) (b : ByteArray) (s : List Nat) (h : b.data.toList.map UInt8.toNat = s) : VR g lb (.str s) (.string b)
 | nilp (lb : LB) : VR g lb .nilp (.pointer none)
 | lptr (lb : LB) (d v off b : Nat) (h : lb d v = some b) : VR g lb (.lptr d v off) (.pointer (some ⟨b,off,none⟩))
 | gptr (lb : LB) (id off b : Nat) (h : g.mb id = some b) : VR g lb (.gptr id off) (.pointer (some ⟨b,off,none⟩))
 | ref (lb : LB) (l : List AV) (b o : Nat) (xs : Nat -> Value) (him : ∀ i,i < l.length -> g.im b (o + i) = some (xs i) /\ (xs i).oneCell' = true)
   (hv : ∀ i (h : i < l.length),VR g noLB l[i] (xs i)) : VR g lb (.ref l) (.pointer (some ⟨b,o,none⟩))
 | listNil (lb : LB) : VR g lb (.list .nil []) (.slice none 0 0)
 | listE (lb : LB) (c : Cap) (a : Addr) (cap : Nat) (hc : c = .any \/ (c = .full /\ cap = 0)) : VR g lb (.list c []) (.slice (some a) 0 cap)
 | sl (lb : LB) (kd id off n cap b : Nat) (hc : n <= cap) (h : g.mb id = some b) : VR g lb (.sl kd id off n cap) (.slice (some ⟨b,off,none⟩) n cap)
 | list (lb : LB) (c : Cap) (l : List AV) (b o sz n cap : Nat) (xs : Nat -> Nat -> Value) (hn : l.length = n) (hcap : n <= cap) (hc : capOK g n b o cap c)
   (hsz : ∀ e ∈ l,e.cells.length = sz)
   (him : ∀ i,i < n -> ∀ j,j < sz -> g.im b (o + (i * sz + j)) = some (xs i j) /\ (xs i j).oneCell' = true)
   (hv : ∀ i (h : i < l.length) j (hj : j < l[i].cells.length),VR g noLB l[i].cells[j] (xs i j)) : VR g lb (.list c l) (.slice (some ⟨b,o,none⟩) n cap)
 | agg (lb : LB) (l : List AV) (a : Array Value) (hs : a.size = l.length) (h1 : ∀ i (h : i < a.size),a[i].oneCell' = true)
   (hv : ∀ i (h : i < l.length) (h' : i < a.size),VR g lb l[i] a[i]) : VR g lb (.agg l) (.agg a)
 | tup (lb : LB) (l : List AV) (a : Array Value) (hs : a.size = l.length)
   (hv : ∀ i (h : i < l.length) (h' : i < a.size),VR g lb l[i] a[i]) : VR g lb (.tup l) (.tuple a)
 | fn (lb : LB) (f f' : Fn) (l m : List AV) (a b : Array Value) (hs : a.size = l.length) (ht : b.size = m.length)
   (hy : FnR g.mb f f')
   (hv : ∀ i (h : i < l.length) (h' : i < a.size),VR g lb l[i] a[i]) (hw : ∀ i (h : i < m.length) (h' : i < b.size),VR g lb m[i] b[i]) :
   VR g lb (.fn f l m) (.func f' a b)
 | nilfn (lb : LB) : VR g lb .nilfn .nilFunc
 | iface (lb : LB) (t : TypeId) (v : AV) (x : Value) (h : VR g lb v x) : VR g lb (.iface t v) (.iface t x)
 | nilif (lb : LB) : VR g lb .nilif .nilIface
 | map (lb : LB) (id b : Nat) (h : g.mb id = some b) : VR g lb (.map id) (.map (some b))
 | nilmap (lb : LB) : VR g lb .nilmap (.map none)
theorem capOK_mono {g g' : Gh} {n b o cap : Nat} {c : Cap} (hg : g.sub g') (h : capOK g n b o cap c) : capOK g' n b o cap c := by
 cases c with
 | any => trivial
 | full => exact h
 | nil => exact h
 | own t => exact ⟨h.1,hg.2.2 _ _ _ h.2⟩
theorem VR.mono {g g' : Gh} {lb lb' : LB} {v : AV} {x : Value} (hg : g.sub g') (hl : ∀ d i b,lb d i = some b -> lb' d i = some b) (h : VR g lb v x) : VR g' lb' v x := by
 induction h generalizing lb' with
 | undef => exact .undef _
 | junk _ x h => exact .junk _ x h
 | int _ k n => exact .int _ k n
 | bool _ b => exact .bool _ b
 | str _ b s h => exact .str _ b s h
 | nilp => exact .nilp _
 | lptr _ d v off b h => exact .lptr _ d v off b (hl _ _ _ h)
 | gptr _ id off b h => exact .gptr _ id off b (hg.2.1 _ _ h)
 | ref _ l b o xs him _ ih => exact .ref _ l b o xs (fun i hi => ⟨hg.1 _ _ _ (him i hi).1,(him i hi).2⟩) fun i hi => ih i hi fun _ _ _ h => h
 | listNil => exact .listNil _
 | listE _ c a cap hc => exact .listE _ c a cap hc
 | sl _ kd id off n cap b hc h => exact .sl _ kd id off n cap b hc (hg.2.1 _ _ h)
 | list _ c l b o sz n cap xs hn hcap hc hsz him _ ih =>
  exact .list _ c l b o sz n cap xs hn hcap (capOK_mono hg hc) hsz (fun i hi j hj => ⟨hg.1 _ _ _ (him i hi j hj).1,(him i hi j hj).2⟩) fun i hi j hj => ih i hi j hj fun _ _ _ h => h
 | agg _ l a hs h1 _ ih => exact .agg _ l a hs h1 fun i hi hi' => ih i hi hi' hl
 | tup _ l a hs _ ih => exact .tup _ l a hs fun i hi hi' => ih i hi hi' hl
 | fn _ f f' l m a b hs ht hy _ _ ih1 ih2 =>
  exact .fn _ f f' l m a b hs ht (hy.mono hg.2.1) (fun i hi hi' => ih1 i hi hi' hl) (fun i hi hi' => ih2 i hi hi' hl)
 | nilfn => exact .nilfn _
 | iface _ t v x _ ih => exact .iface _ t v x (ih hl)
 | nilif => exact .nilif _
 | map _ id b h => exact .map _ id b (hg.2.1 _ _ h)
 | nilmap => exact .nilmap _
theorem Gh.sub_refl (g : Gh) : g.sub g := ⟨fun _ _ _ h => h,fun _ _ h => h,fun _ _ _ h => h⟩
theorem Gh.sub_trans {a b c : Gh} (h : a.sub b) (k : b.sub c) : a.sub c :=
 ⟨fun _ _ _ x => k.1 _ _ _ (h.1 _ _ _ x),fun _ _ x => k.2.1 _ _ (h.2.1 _ _ x),fun _ _ _ x => k.2.2 _ _ _ (h.2.2 _ _ _ x)⟩
theorem VR.sub {g g' : Gh} {lb : LB} {v : AV} {x : Value} (hg : g.sub g') (h : VR g lb v x) : VR g' lb v x := h.mono hg fun _ _ _ h => h
theorem cells_exp (n : Nat) (k : Bool) (v : AV) : (exp n k v).cells = v.cells.map (exp n k) := by
 cases v with
 | gptr id off => simp only [exp,AV.cells,List.map_cons,List.map_nil]; by_cases h : id < n <;> simp [h]
 | fn f a b => simp only [exp,AV.cells,List.map_cons,List.map_nil]; by_cases h : Fn.below n f = true <;> simp [h]
 | map id => simp only [exp,AV.cells,List.map_cons,List.map_nil]; by_cases h : id < n <;> simp [h]
 | sl kd id off m cap => simp only [exp,AV.cells,List.map_cons,List.map_nil]; by_cases h : id < n <;> simp [h]
 | _ => simp [exp,AV.cells,exps_eq]
theorem capOK_exp {g : Gh} {n b o cap m : Nat} {k : Bool} {c : Cap} (h : capOK g n b o cap c) : capOK (g.cut m) n b o cap (c.exp m k) := by
 cases c with
 | any => trivial
 | nil => exact h
 | full =>
  simp only [Cap.exp]
  split
  ·exact h
  ·trivial
 | own t =>
  simp only [Cap.exp]
  split
  ·rename_i hk
   simp only [Bool.and_eq_true,decide_eq_true_eq] at hk
   exact ⟨h.1,by simp only [Gh.cut,hk.2,if_true]; exact h.2⟩
  ·trivial
theorem VR.exp {g : Gh} {lb lb' : LB} {v : AV} {x : Value} (m : Nat) (k : Bool) (h : VR g lb v x) : VR (g.cut m) lb' (exp m k v) x := by
 induction h generalizing lb' with
 | undef => exact .undef _
 | junk _ x h => exact .junk _ x h
 | int _ k n => exact .int _ k n
 | bool _ b => exact .bool _ b
 | str _ b s h => exact .str _ b s h
 | nilp => exact .nilp _
 | lptr _ d v off b h => exact .junk _ _ rfl
 | gptr _ id off b h =>
  simp only [Abs.exp]
  split
  ·rename_i hi; exact .gptr _ id off b (by simp only [Gh.cut,hi,if_true]; exact h)
  ·exact .junk _ _ rfl
 | ref _ l b o xs him _ ih =>
  simp only [Abs.exp,exps_eq]
  refine .ref _ _ b o xs (fun i hi => him i (by simpa using hi)) (fun i hi => ?_)
  simp only [List.getElem_map]
  exact ih i (by simpa using hi)
 | listNil =>
  simp only [Abs.exp,exps_eq,List.map_nil,Cap.exp]
  exact .listNil _
 | listE _ c a cap hc =>
  simp only [Abs.exp,exps_eq,List.map_nil]
  refine .listE _ _ a cap ?_
  rcases hc with rfl | ⟨rfl,h⟩
  ·exact .inl rfl
  ·simp only [Cap.exp]
   split
   ·exact .inr ⟨rfl,h⟩
   ·exact .inl rfl
 | sl _ kd id off n cap b hc h =>
  simp only [Abs.exp]
  split
  ·rename_i hi; exact .sl _ kd id off n cap b hc (by simp only [Gh.cut,hi,if_true]; exact h)
  ·exact .junk _ _ rfl
 | list _ c l b o sz n cap xs hn hcap hc hsz him _ ih =>
  simp only [Abs.exp,exps_eq]
  refine .list _ _ _ b o sz n cap xs (by simpa using hn) hcap (capOK_exp hc) ?_ him ?_
  ·intro e he
   obtain ⟨e',he',rfl⟩ := List.mem_map.1 he
   rw [cells_exp,List.length_map]; exact hsz e' he'
  ·intro i hi j hj
   have hi' : i < l.length := by simpa using hi
   have hj' : j < l[i].cells.length := by simpa [cells_exp] using hj
   have := ih i hi' j hj' (lb' := noLB)
   simpa [cells_exp] using this
 | agg _ l a hs h1 _ ih =>
  simp only [Abs.exp,exps_eq]
  refine .agg _ _ a (by simpa using hs) h1 fun i hi hi' => ?_
  simp only [List.getElem_map]
  exact ih i (by simpa using hi) hi'
 | tup _ l a hs _ ih =>
  simp only [Abs.exp,exps_eq]
  refine .tup _ _ a (by simpa using hs) fun i hi hi' => ?_
  simp only [List.getElem_map]
  exact ih i (by simpa using hi) hi'
 | fn _ f f' l m' a b hs ht hy _ _ ih1 ih2 =>
  simp only [Abs.exp,exps_eq]
  split
  ·rename_i hf
   refine .fn _ f f' _ _ a b (by simpa using hs) (by simpa using ht) ?_ (fun i hi hi' => ?_) (fun i hi hi' => ?_)
   ·cases f <;> cases f' <;> first | exact hy | exact hy.elim | skip
    simp only [Fn.below,decide_eq_true_eq] at hf
    simp only [FnR,Gh.cut,hf,if_true]
    exact hy
   ·simp only [List.getElem_map]
    exact ih1 i (by simpa using hi) hi'
   ·simp only [List.getElem_map]
    exact ih2 i (by simpa using hi) hi'
  ·exact .junk _ _ rfl
 | nilfn => exact .nilfn _
 | iface _ t v x _ ih => exact .iface _ t _ x ih
 | nilif => exact .nilif _
 | map _ id b h =>
  simp only [Abs.exp]
  split
  ·rename_i hi; exact .map _ id b (by simp only [Gh.cut,hi,if_true]; exact h)
  ·exact .junk _ _ rfl
 | nilmap => exact .nilmap _
theorem cells_nol (v : AV) : (nol v).cells = v.cells.map nol := by
 cases v <;> simp [nol,AV.cells,nols_eq]
theorem VR.nol {g : Gh} {lb lb' : LB} {v : AV} {x : Value} (h : VR g lb v x) : VR g lb' (nol v) x := by
 induction h generalizing lb' with
 | undef => exact .undef _
 | junk _ x h => exact .junk _ x h
 | int _ k n => exact .int _ k n
 | bool _ b => exact .bool _ b
 | str _ b s h => exact .str _ b s h
 | nilp => exact .nilp _
 | lptr _ d v off b h => exact .junk _ _ rfl
 | gptr _ id off b h => exact .gptr _ id off b h
 | ref _ l b o xs him _ ih =>
  simp only [Abs.nol,nols_eq]
  refine .ref _ _ b o xs (fun i hi => him i (by simpa using hi)) (fun i hi => ?_)
  simp only [List.getElem_map]
  exact ih i (by simpa using hi)
 | listNil =>
  simp only [Abs.nol,nols_eq,List.map_nil]
  exact .listNil _
 | listE _ c a cap hc =>
  simp only [Abs.nol,nols_eq,List.map_nil]
  exact .listE _ c a cap hc
 | sl _ kd id off n cap b hc h => exact .sl _ kd id off n cap b hc h
 | list _ c l b o sz n cap xs hn hcap hc hsz him _ ih =>
  simp only [Abs.nol,nols_eq]
  refine .list _ _ _ b o sz n cap xs (by simpa using hn) hcap hc ?_ him ?_
  ·intro e he
   obtain ⟨e',he',rfl⟩ := List.mem_map.1 he
   rw [cells_nol,List.length_map]; exact hsz e' he'
  ·intro i hi j hj
   have hi' : i < l.length := by simpa using hi
   have hj' : j < l[i].cells.length := by simpa [cells_nol] using hj
   have := ih i hi' j hj' (lb' := noLB)
   simpa [cells_nol] using this
 | agg _ l a hs h1 _ ih =>
  simp only [Abs.nol,nols_eq]
  refine .agg _ _ a (by simpa using hs) h1 fun i hi hi' => ?_
  simp only [List.getElem_map]
  exact ih i (by simpa using hi) hi'
 | tup _ l a hs _ ih =>
  simp only [Abs.nol,nols_eq]
  refine .tup _ _ a (by simpa using hs) fun i hi hi' => ?_
  simp only [List.getElem_map]
  exact ih i (by simpa using hi) hi'
 | fn _ f f' l m' a b hs ht hy _ _ ih1 ih2 =>
  simp only [Abs.nol,nols_eq]
  refine .fn _ f f' _ _ a b (by simpa using hs) (by simpa using ht) hy (fun i hi hi' => ?_) (fun i hi hi' => ?_)
  ·simp only [List.getElem_map]
   exact ih1 i (by simpa using hi) hi'
  ·simp only [List.getElem_map]
   exact ih2 i (by simpa using hi) hi'
 | nilfn => exact .nilfn _
 | iface _ t v x _ ih => exact .iface _ t _ x ih
 | nilif => exact .nilif _
 | map _ id b h => exact .map _ id b h
 | nilmap => exact .nilmap _
theorem VR.cells {g : Gh} {lb : LB} {v : AV} {x : Value} (h : VR g lb v x) (hn : v.cells ≠ []) :
  x.cells.size = v.cells.length /\ (∀ i (hi : i < v.cells.length) (hi' : i < x.cells.size),VR g lb v.cells[i] x.cells[i]) /\ (∀ i (hi' : i < x.cells.size),x.cells[i].oneCell' = true) := by
 cases h with
 | undef => exact absurd rfl hn
 | tup _ l a hs hv => exact absurd rfl hn
 | agg _ l a hs h1 hv => exact ⟨hs,fun i hi hi' => hv i hi hi',h1⟩
 | junk _ x h =>
  have hx : x.cells = #[x] := by cases x <;> simp_all [Value.cells,Value.oneCell']
  refine ⟨by simp [hx,AV.cells],fun i hi hi' => ?_,fun i hi' => ?_⟩
  ·have : i = 0 := by simpa [AV.cells] using hi
   subst this
   simp only [hx,AV.cells]
   exact .junk _ x h
  ·have : i = 0 := by simpa [hx] using hi'
   subst this
   simpa [hx] using h
 | _ =>
  refine ⟨by simp [Value.cells,AV.cells],fun i hi hi' => ?_,fun i hi' => ?_⟩
  ·have : i = 0 := by simpa [AV.cells] using hi
   subst this
   simp only [Value.cells,AV.cells,List.getElem_cons_zero,List.getElem_toArray]
   constructor <;> assumption
  ·have : i = 0 := by simpa [Value.cells] using hi'
   subst this
   simp [Value.cells,Value.oneCell']
end Go.Abs
