/- An abstract executor of the model's code: its values, its memory, its operations. Values are trees: a slice that is only read is a list. No heap, no order. -/
import Derived.CallsIn
import Derived.OrdersIn
import Derived.LoopNIn
set_option linter.unusedVariables false
set_option linter.unusedSimpArgs false
namespace Go.Abs

/-- What is known of a slice: that it is nil; of its capacity nothing; that it is the length; that what lies behind is this row's own. -/
inductive Cap
  | nil
  | any
  | full
  | own (t : Nat)
  deriving DecidableEq

inductive AV
  | undef
  | junk
  | int (k : IntKind) (n : Int)
  | bool (b : Bool)
  | str (s : List Nat)
  | nilp
  | lptr (d v off : Nat)
  | gptr (id off : Nat)
  | ref (l : List AV)
  | list (c : Cap) (l : List AV)
  | sl (kd id off n cap : Nat)
  | agg (l : List AV)
  | tup (l : List AV)
  | fn (f : Fn) (first cap : List AV)
  | nilfn
  | iface (t : TypeId) (v : AV)
  | nilif
  | map (id : Nat)
  | nilmap
  deriving Inhabited

/-- The cells of what a variable may hold; none of what no variable holds. -/
def AV.cells : AV → List AV
  | .agg l => l
  | .tup _ => []
  | .undef => []
  | v => [v]

/-- One cell: no aggregate, no tuple. -/
def AV.one : AV → Bool
  | .agg _ => false
  | .tup _ => false
  | .undef => false
  | _ => true

/-! ### equality, as a test -/
mutual
def AV.beq : AV → AV → Bool
  | .undef, .undef => true
  | .junk, .junk => true
  | .int k n, .int k' n' => decide (k = k') && decide (n = n')
  | .bool b, .bool b' => b == b'
  | .str s, .str s' => decide (s = s')
  | .nilp, .nilp => true
  | .lptr d v o, .lptr d' v' o' => decide (d = d') && decide (v = v') && decide (o = o')
  | .gptr d o, .gptr d' o' => decide (d = d') && decide (o = o')
  | .ref l, .ref l' => AV.beqs l l'
  | .list c l, .list c' l' => decide (c = c') && AV.beqs l l'
  | .sl kd i o n c, .sl kd' i' o' n' c' => decide (kd = kd') && decide (i = i') && decide (o = o') && decide (n = n') && decide (c = c')
  | .agg l, .agg l' => AV.beqs l l'
  | .tup l, .tup l' => AV.beqs l l'
  | .fn f a b, .fn f' a' b' => decide (f = f') && AV.beqs a a' && AV.beqs b b'
  | .nilfn, .nilfn => true
  | .iface t v, .iface t' v' => decide (t = t') && AV.beq v v'
  | .nilif, .nilif => true
  | .map i, .map i' => decide (i = i')
  | .nilmap, .nilmap => true
  | _, _ => false
def AV.beqs : List AV → List AV → Bool
  | [], [] => true
  | a :: l, b :: l' => AV.beq a b && AV.beqs l l'
  | _, _ => false
end

/-! ### what leaves an activation: no private pointer, no reference at or beyond n; where k is false, nothing is known of capacities -/
def Cap.exp (n : Nat) (k : Bool) : Cap → Cap
  | .own t => if k && decide (t < n) then .own t else .any
  | .full => if k then .full else .any
  | .any => .any
  | .nil => .nil

def Fn.below (n : Nat) : Fn → Bool
  | .func _ => true
  | .yield l => decide (l < n)
  | _ => false

mutual
def exp (n : Nat) (k : Bool) : AV → AV
  | .lptr _ _ _ => .junk
  | .gptr id off => if id < n then .gptr id off else .junk
  | .ref l => .ref (exps n k l)
  | .list c l => .list (c.exp n k) (exps n k l)
  | .sl kd id off m cap => if id < n then .sl kd id off m cap else .junk
  | .agg l => .agg (exps n k l)
  | .tup l => .tup (exps n k l)
  | .fn f a b => if Fn.below n f then .fn f (exps n k a) (exps n k b) else .junk
  | .iface t v => .iface t (exp n k v)
  | .map id => if id < n then .map id else .junk
  | v => v
def exps (n : Nat) (k : Bool) : List AV → List AV
  | [] => []
  | v :: l => exp n k v :: exps n k l
end

/-! ### what is laid into memory: no private pointer -/
mutual
def nol : AV → AV
  | .lptr _ _ _ => .junk
  | .ref l => .ref (nols l)
  | .list c l => .list c (nols l)
  | .agg l => .agg (nols l)
  | .tup l => .tup (nols l)
  | .fn f a b => .fn f (nols a) (nols b)
  | .iface t v => .iface t (nol v)
  | v => v
def nols : List AV → List AV
  | [] => []
  | v :: l => nol v :: nols l
end

/-! ### what leaves an activation, what it points to read out -/
mutual
def frzW (n : Nat) (hp : Nat → Nat → AV) (hs : Nat → Nat → Nat → Nat → AV) : AV → AV
  | .lptr _ _ _ => .junk
  | .gptr id off => if id < n then .gptr id off else hp id off
  | .ref l => .ref (frzWs n hp hs l)
  | .list c l => .list (c.exp n false) (frzWs n hp hs l)
  | .sl kd id off m cap => if id < n then .sl kd id off m cap else hs kd id off m
  | .agg l => .agg (frzWs n hp hs l)
  | .tup l => .tup (frzWs n hp hs l)
  | .fn f a b => if Fn.below n f then .fn f (frzWs n hp hs a) (frzWs n hp hs b) else .junk
  | .iface t v => .iface t (frzW n hp hs v)
  | .map id => if id < n then .map id else .junk
  | v => v
def frzWs (n : Nat) (hp : Nat → Nat → AV) (hs : Nat → Nat → Nat → Nat → AV) : List AV → List AV
  | [] => []
  | v :: l => frzW n hp hs v :: frzWs n hp hs l
end

/-- Cells in pieces of s. -/
def chunk (s : Nat) : Nat → List AV → List AV
  | 0, _ => []
  | m + 1, l => .agg (l.take s) :: chunk s m (l.drop s)

theorem frzWs_eq (n : Nat) (hp : Nat → Nat → AV) (hs : Nat → Nat → Nat → Nat → AV) (l : List AV) : frzWs n hp hs l = l.map (frzW n hp hs) := by
  induction l with
  | nil => rfl
  | cons a l ih => simp [frzWs, ih]

/-! ### no reference beyond n (upward) -/
def Cap.lo (n : Nat) : Cap → Bool
  | .own t => decide (t ≤ n)
  | _ => true
mutual
def lo (n : Nat) : AV → Bool
  | .gptr id _ => decide (id ≤ n)
  | .ref l => los n l
  | .list c l => c.lo n && los n l
  | .sl _ id _ _ _ => decide (id ≤ n)
  | .agg l => los n l
  | .tup l => los n l
  | .fn f a b => Fn.below (n + 1) f && los n a && los n b
  | .iface _ v => lo n v
  | .map id => decide (id ≤ n)
  | _ => true
def los (n : Nat) : List AV → Bool
  | [] => true
  | v :: l => lo n v && los n l
end

/-! ### plain data -/
mutual
def plain : AV → Bool
  | .undef | .junk | .int _ _ | .bool _ | .str _ | .nilp | .nilfn | .nilif | .nilmap => true
  | .lptr _ _ _ => false
  | .gptr _ _ => false
  | .ref _ => false
  | .list c l => (decide (c = .any) || decide (c = .nil)) && plains l
  | .sl _ _ _ _ _ => false
  | .agg l => plains l
  | .tup l => plains l
  | .fn (.func _) [] [] => true
  | .fn _ _ _ => false
  | .iface _ v => plain v
  | .map _ => false
def plains : List AV → Bool
  | [] => true
  | v :: l => plain v && plains l
end

theorem exps_eq (n : Nat) (k : Bool) (l : List AV) : exps n k l = l.map (exp n k) := by
  induction l with
  | nil => rfl
  | cons a l ih => simp [exps, ih]
theorem nols_eq (l : List AV) : nols l = l.map nol := by
  induction l with
  | nil => rfl
  | cons a l ih => simp [nols, ih]
theorem los_eq (n : Nat) (l : List AV) : los n l = l.all (lo n) := by
  induction l with
  | nil => rfl
  | cons a l ih => simp [los, ih]
theorem plains_eq (l : List AV) : plains l = l.all plain := by
  induction l with
  | nil => rfl
  | cons a l ih => simp [plains, ih]

/-! ### the temporaries, the private variables, the memory -/
def getE : List AV → Nat → AV
  | [], _ => .undef
  | v :: _, 0 => v
  | _ :: l, n + 1 => getE l n
def setE : List AV → Nat → AV → List AV
  | [], 0, v => [v]
  | [], n + 1, v => .undef :: setE [] n v
  | _ :: l, 0, v => v :: l
  | a :: l, n + 1, v => a :: setE l n v

theorem getE_setE (l : List AV) (i : Nat) (v : AV) (j : Nat) : getE (setE l i v) j = if i = j then v else getE l j := by
  induction i generalizing l j with
  | zero =>
    cases l <;> cases j <;> simp [setE, getE]
  | succ i ih =>
    cases l with
    | nil => cases j with
      | zero => simp [setE, getE]
      | succ j => simp [setE, getE, ih]
    | cons a l => cases j with
      | zero => simp [setE, getE]
      | succ j => simp [setE, getE, ih]

/-! ### operands and operations -/
inductive Opd
  | t (n : Nat)
  | c (v : AV)
  | g (n : Nat)
  deriving Inhabited

/-- What a map's keys are. -/
inductive KK
  | int
  | str
  | bool
  deriving DecidableEq, Inhabited

/-- What kind of type is held against nil. -/
inductive NK
  | ptr
  | slice
  | fn
  | iface
  | map
  deriving DecidableEq, Inhabited

inductive CK
  | int (k : IntKind)
  | same
  | char
  deriving Inhabited

inductive AO
  | bad
  | mv (x : Opd)
  | pick (c a b : Opd)
  | alloc (glob : Bool) (zero : List AV)
  | box (glob : Bool) (n : Nat) (x : Opd)
  | build (zero : List AV) (parts : List (Nat × Nat × Opd))
  | bslice (ag : Bool) (sz : Nat) (xs : List Opd)
  | ld (ag : Bool) (n : Nat) (a : Opd)
  | st (n : Nat) (a x : Opd)
  | nilck (x : Opd)
  | bin (op : BinOp) (x y : Opd)
  | eqs (neg : Bool) (ks : List KK) (x y : Opd)
  | eqb (neg : Bool) (x y : Opd)
  | isnil (neg : Bool) (k : NK) (x : Opd)
  | un (op : UnOp) (x : Opd)
  | conv (k : CK) (x : Opd)
  | mkif (t : TypeId) (x : Opd)
  | mkfn (f : Fn) (first cap : List Opd)
  | fa (off : Nat) (x : Opd)
  | fld (ag : Bool) (off n : Nat) (x : Opd)
  | ia (sz : Nat) (x i : Opd)
  | iaa (len sz : Nat) (x i : Opd)
  | ixa (ag : Bool) (len sz : Nat) (x i : Opd)
  | ixs (x i : Opd)
  | lookup (kk : KK) (zero : AV) (ok : Bool) (m k : Opd)
  | mapup (kk : KK) (m k v : Opd)
  | mkmap
  | slc (sz : Nat) (x : Opd) (lo hi mx : Option Opd)
  | slcs (x : Opd) (lo hi : Option Opd)
  | ext (x : Opd) (k : Nat)
  | call (f : Opd) (args : List Opd)
  | app (ag : Bool) (sz bytes : Nat) (e : TypeId) (x y : Opd)
  | len (x : Opd)
  | lens (x : Opd)
  | lenm (x : Opd)
  | lenc (n : Nat)
  | mkslc (kd : Nat) (zero : List AV) (bytes : Nat) (n c : Opd)
  | cpy (sz : Nat) (x y : Opd)
  | clr (zero : List AV) (x : Opd)
  | del (kk : KK) (m k : Opd)
  | max (x y : Opd)
  | min (x y : Opd)
  | abld (T e : TypeId)
  | rng (x : Opd)
  | nxt (x : Opd)
  deriving Inhabited

structure AOp where
  dst : Option Nat
  op : AO
  guard : Option (Nat × Bool)
  deriving Inhabited

inductive AC
  | skip
  | ops (l : List AOp)
  | draw (l : List AOp) (cf af : List (Nat × Nat))
  | seq (a b : AC)
  | cond (x : Opd) (a b : AC)
  | block (id : Nat) (a : AC)
  | loop (a : AC)
  | exit (id : Nat)
  | ret
  | rfun (f : Opd) (ps : List Nat) (asg body : AC)
  | bad
  deriving Inhabited

/-- A loop over a function: ready for a round, in one, left by a jump (none: return). -/
inductive LS
  | ready
  | busy
  | done (j : Option Nat)
  deriving DecidableEq, Inhabited

inductive Blk
  | cells (l : List AV)
  | iter (s : List Nat) (pos : Nat)
  | dead
  | bld (T e : TypeId) (s : List Nat)
  | map (es : List (AV × AV))
  | front (n sz : Nat) (e : TypeId)
  | loop (env : List AV) (ps : List Nat) (asg body : AC) (st : LS)
  deriving Inhabited

abbrev Loc := List (Nat × Nat × Blk)
def lget : Loc → Nat → Option (Nat × Blk)
  | [], _ => none
  | (d, x) :: l, d' => if d = d' then some x else lget l d'
def lset : Loc → Nat → (Nat × Blk) → Loc
  | [], d, x => [(d, x)]
  | (d, x) :: l, d', x' => if d = d' then (d', x') :: l else (d, x) :: lset l d' x'
theorem lget_lset (l : Loc) (d : Nat) (x : Nat × Blk) (d' : Nat) : lget (lset l d x) d' = if d = d' then some x else lget l d' := by
  induction l with
  | nil => simp [lset, lget]
  | cons a l ih =>
    obtain ⟨e, y⟩ := a
    by_cases h : e = d
    · subst h
      by_cases h' : e = d' <;> simp [lset, lget, h']
    · by_cases h' : e = d'
      · subst h'; simp [lset, lget, h, Ne.symm h]
      · simp [lset, lget, h, h', ih]

structure Mem where
  blks : List Blk
  touched : List Nat
  deriving Inhabited

def splice (l : List AV) (off : Nat) (vs : List AV) : List AV := l.take off ++ vs ++ l.drop (off + vs.length)

/-- Reading n cells behind a pointer. -/
def rd (lk : Nat → Option (Nat × Blk)) (mem : Mem) (p : AV) (n : Nat) : Option (List AV) :=
  match p with
  | .lptr d v off =>
    match lk d with
    | some (v', .cells l) => if v' = v ∧ off + n ≤ l.length then some ((l.drop off).take n) else none
    | _ => none
  | .gptr id off =>
    match mem.blks[id]? with
    | some (.cells l) => if off + n ≤ l.length then some ((l.drop off).take n) else none
    | _ => none
  | .ref l => if n ≤ l.length then some (l.take n) else none
  | _ => none

abbrev Upd := Option (Nat × Nat × Blk)

/-- A block of the memory is changed. -/
def Mem.put (m : Mem) (id : Nat) (b : Blk) (ok : Bool) : Mem := { blks := m.blks.set id b, touched := if ok then m.touched else id :: m.touched }
def Mem.push (m : Mem) (b : Blk) : Mem := { m with blks := m.blks ++ [b] }
def Mem.nol (_ : Mem) (v : AV) : AV := Abs.nol v

def wr (lk : Nat → Option (Nat × Blk)) (mem : Mem) (p : AV) (vs : List AV) : Option (Upd × Mem) :=
  match p with
  | .lptr d v off =>
    match lk d with
    | some (v', .cells l) => if v' = v ∧ off + vs.length ≤ l.length then some (some (d, v, .cells (splice l off vs)), mem) else none
    | _ => none
  | .gptr id off =>
    match mem.blks[id]? with
    | some (.cells l) => if off + vs.length ≤ l.length then some (none, mem.put id (.cells (splice l off (vs.map mem.nol))) (los id (vs.map mem.nol))) else none
    | _ => none
  | _ => none

def aInt (op : BinOp) (k : IntKind) (a b : Int) : Option AV :=
  match op with
  | .add => some (.int k (k.wrap (a + b)))
  | .sub => some (.int k (k.wrap (a - b)))
  | .mul => some (.int k (k.wrap (a * b)))
  | .quo => if b = 0 then none else some (.int k (k.wrap (a.tdiv b)))
  | .rem => if b = 0 then none else some (.int k (a.tmod b))
  | .and => some (.int k (k.wrap (BitVec.ofInt k.bits a &&& BitVec.ofInt k.bits b).toNat))
  | .or => some (.int k (k.wrap (BitVec.ofInt k.bits a ||| BitVec.ofInt k.bits b).toNat))
  | .xor => some (.int k (k.wrap (BitVec.ofInt k.bits a ^^^ BitVec.ofInt k.bits b).toNat))
  | .andNot => some (.int k (k.wrap (BitVec.ofInt k.bits a &&& ~~~BitVec.ofInt k.bits b).toNat))
  | .eql => some (.bool (a == b))
  | .neq => some (.bool (a != b))
  | .lss => some (.bool (decide (a < b)))
  | .leq => some (.bool (decide (a ≤ b)))
  | .gtr => some (.bool (decide (a > b)))
  | .geq => some (.bool (decide (a ≥ b)))
  | _ => none

def natsLess : List Nat → List Nat → Bool
  | _, [] => false
  | [], _ :: _ => true
  | a :: x, b :: y => decide (a < b) || (decide (a = b) && natsLess x y)

def aStr (op : BinOp) (a b : List Nat) : Option AV :=
  match op with
  | .add => if ((a.length + b.length : Nat) : Int) > IntKind.i64.max then none else some (.str (a ++ b))
  | .eql => some (.bool (decide (a = b)))
  | .neq => some (.bool (!decide (a = b)))
  | .lss => some (.bool (natsLess a b))
  | .leq => some (.bool (natsLess a b || decide (a = b)))
  | .gtr => some (.bool (!(natsLess a b || decide (a = b))))
  | .geq => some (.bool (!natsLess a b))
  | _ => none

def aBin (op : BinOp) (x y : AV) : Option AV :=
  match x, y with
  | .int k a, .int k' b =>
    match op with
    | .shl => if b < 0 then none else some (.int k (k.wrap (a * 2 ^ Nat.min b.toNat k.bits)))
    | .shr => if b < 0 then none else some (.int k (a.fdiv (2 ^ Nat.min b.toNat k.bits)))
    | _ => if k = k' then aInt op k a b else none
  | .str a, .str b => aStr op a b
  | _, _ => none

/-- Are two lists of cells the same, each cell of its kind? -/
def eqCells : List KK → List AV → List AV → Option Bool
  | [], [], [] => some true
  | .int :: ks, .int k a :: l, .int k' b :: l' => if k = k' then (eqCells ks l l').map (decide (a = b) && ·) else none
  | .str :: ks, .str a :: l, .str b :: l' => (eqCells ks l l').map (decide (a = b) && ·)
  | .bool :: ks, .bool a :: l, .bool b :: l' => (eqCells ks l l').map ((a == b) && ·)
  | _, _, _ => none

def isNil : NK → AV → Option Bool
  | .ptr, .nilp => some true
  | .ptr, .lptr _ _ _ => some false
  | .ptr, .gptr _ _ => some false
  | .ptr, .ref _ => some false
  | .slice, .list .nil _ => some true
  | .slice, .list _ _ => some false
  | .slice, .sl _ _ _ _ _ => some false
  | .fn, .nilfn => some true
  | .fn, .fn _ _ _ => some false
  | .iface, .nilif => some true
  | .iface, .iface _ _ => some false
  | .map, .nilmap => some true
  | .map, .map _ => some false
  | _, _ => none

def aUn (op : UnOp) (x : AV) : Option AV :=
  match op, x with
  | .neg, .int k n => some (.int k (k.wrap (0 - n)))
  | .not, .bool b => some (.bool !b)
  | _, _ => none

def aConv (k : CK) (x : AV) : Option AV :=
  match k, x with
  | .int k, .int _ n => some (.int k (k.wrap n))
  | .same, .str s => some (.str s)
  | .char, .int _ n => some (.str ((Utf8.encode n).data.toList.map UInt8.toNat))
  | _, _ => none

/-- The shape of an element. -/
def shaped (ag : Bool) (sz : Nat) : AV → Bool
  | .agg l => ag && decide (l.length = sz)
  | v => !ag && v.one && decide (sz = 1)

def single : List AV → Option AV
  | [v] => some v
  | _ => none
def asElem (ag : Bool) (l : List AV) : Option AV := if ag then some (.agg l) else single l

def keyEq : AV → AV → Option Bool
  | .str a, .str b => some (decide (a = b))
  | .int k a, .int k' b => if k = k' then some (decide (a = b)) else none
  | .bool a, .bool b => some (a == b)
  | _, _ => none

def mfind (k : AV) : List (AV × AV) → Option (Option AV)
  | [] => some none
  | (k', v) :: l => match keyEq k k' with
    | some true => some (some v)
    | some false => mfind k l
    | none => none
def mset (k v : AV) : List (AV × AV) → Option (List (AV × AV))
  | [] => some [(k, v)]
  | (k', v') :: l => match keyEq k k' with
    | some true => some ((k, v) :: l)
    | some false => (mset k v l).map ((k', v') :: ·)
    | none => none
def mdel (k : AV) : List (AV × AV) → Option (List (AV × AV))
  | [] => some []
  | (k', v') :: l => match keyEq k k' with
    | some true => some l
    | some false => (mdel k l).map ((k', v') :: ·)
    | none => none
/-- What a key of a map may be. -/
def isKey : KK → AV → Bool
  | .str, .str _ => true
  | .int, .int _ _ => true
  | .bool, .bool _ => true
  | _, _ => false

def bound (ev : Opd → AV) (top : Nat) : Option Opd → Nat → Option Nat
  | none, dflt => some dflt
  | some x, _ => match ev x with
    | .int _ n => if 0 ≤ n ∧ n ≤ top then some n.toNat else none
    | _ => none

def padd (p : AV) (off : Nat) : Option AV :=
  match p with
  | .lptr d v o => some (.lptr d v (o + off))
  | .gptr id o => some (.gptr id (o + off))
  | .ref l => if off ≤ l.length then some (.ref (l.drop off)) else none
  | _ => none

def fills (ev : Opd → AV) : List (Nat × Nat × Opd) → List AV → Option (List AV)
  | [], cs => some cs
  | (off, size, x) :: rest, cs =>
    if (ev x).cells.length = size ∧ off + size ≤ cs.length then fills ev rest (splice cs off (ev x).cells) else none

def newVer (lk : Nat → Option (Nat × Blk)) (d : Nat) : Nat :=
  match lk d with
  | none => 0
  | some (v, _) => v + 1

/-- A new variable. -/
def newVar (lk : Nat → Option (Nat × Blk)) (mem : Mem) (glob : Bool) (dst : Option Nat) (b : List AV) : Option (AV × Upd × Mem) :=
  if glob then some (.gptr mem.blks.length 0, none, mem.push (.cells (b.map mem.nol)))
  else match dst with
    | some d => some (.lptr d (newVer lk d) 0, some (d, newVer lk d, .cells b), mem)
    | none => none

/-- What leaves an activation: what lies beyond n is read out of the memory. -/
def frz (bs : List Blk) (n : Nat) : Nat → AV → AV
  | 0 => exp n false
  | k + 1 => frzW n
      (fun id off => match bs[id]? with
        | some (.cells l) => .ref ((l.drop off).map (frz bs n k))
        | _ => .junk)
      (fun kd id off m => match bs[id]? with
        | some (.cells l) => if off + m * Nat.max kd 1 ≤ l.length then
            (if kd = 0 then (if ((l.drop off).take m).all AV.one then .list .any (((l.drop off).take m).map (frz bs n k)) else .junk)
            else .list .any (chunk kd m ((l.drop off).map (frz bs n k))))
          else .junk
        | _ => .junk)

/-- n times the same. -/
def rep : Nat → List AV → List AV
  | 0, _ => []
  | n + 1, z => z ++ rep n z

/-- How many elements a slice has, and their cells. -/
def cellsOf (mem : Mem) (sz : Nat) : AV → Option (Nat × List AV)
  | .list _ l => if l.all (fun e => decide (e.cells.length = sz)) then some (l.length, l.flatMap AV.cells) else none
  | .sl _ id off n _ => match mem.blks[id]? with
    | some (.cells l) => if off + n * sz ≤ l.length then some (n, (l.drop off).take (n * sz)) else none
    | _ => none
  | _ => none

abbrev CallV := AV → List AV → Mem → Option (AV × Mem)

/-- 'append(x, y...)'. -/
def aApp (mem : Mem) (ag : Bool) (sz bytes : Nat) (e : TypeId) (x y : AV) : Option (AV × Mem) :=
  match x, y with
  | .list c l, .list _ m =>
    if m.all (shaped ag sz) && l.all (shaped ag sz) && decide (0 < sz) && decide ((l.length + m.length) * bytes ≤ 140737488355328) && decide (l.length + m.length ≤ 140737488355328) then
      match c, m with
      | c, [] => some (.list c l, mem)
      | .full, m => some (.list (.own mem.blks.length) (l ++ m.map mem.nol), mem.push (.front (l.length + m.length) sz e))
      | .nil, m => some (.list (.own mem.blks.length) (l ++ m.map mem.nol), mem.push (.front (l.length + m.length) sz e))
      | .own t, m => match mem.blks[t]? with
        | some (.front n sz' e') => if n = l.length ∧ sz' = sz ∧ e' = e then some (.list (.own t) (l ++ m.map mem.nol), mem.put t (.front (l.length + m.length) sz e) true) else none
        | _ => none
      | .any, _ => none
    else none
  | _, _ => none

def aop (ev : Opd → AV) (lk : Nat → Option (Nat × Blk)) (mem : Mem) (callv : CallV) (dst : Option Nat) (o : AO) : Option (AV × Upd × Mem) :=
  match o with
  | .bad => none
  | .mv x => some (ev x, none, mem)
  | .pick c a b => match ev c with
    | .bool t => some (if t then ev a else ev b, none, mem)
    | _ => none
  | .alloc glob z => newVar lk mem glob dst z
  | .abld T e => some (.gptr mem.blks.length 0, none, mem.push (.bld T e []))
  | .box glob n x => if (ev x).cells.length = n then newVar lk mem glob dst (ev x).cells else none
  | .build z parts => (fills ev parts z).map fun l => (.agg l, none, mem)
  | .bslice ag sz xs =>
    if xs.all fun x => shaped ag sz (ev x) then some (.list .full (xs.map fun x => mem.nol (ev x)), none, mem) else none
  | .ld ag n a => match rd lk mem (ev a) n with
    | some l => (asElem ag l).map fun v => (v, none, mem)
    | none => none
  | .st n a x => if (ev x).cells.length = n then (wr lk mem (ev a) (ev x).cells).map fun (u, m) => (.undef, u, m) else none
  | .nilck x => match ev x with
    | .lptr d v o => some (.lptr d v o, none, mem)
    | .gptr id o => some (.gptr id o, none, mem)
    | .ref l => some (.ref l, none, mem)
    | .fn (.func f) a b => some (.fn (.func f) a b, none, mem)
    | .fn (.yield f) a b => some (.fn (.yield f) a b, none, mem)
    | _ => none
  | .bin op x y => (aBin op (ev x) (ev y)).map fun v => (v, none, mem)
  | .eqs neg ks x y => match ev x, ev y with
    | .agg a, .agg b => (eqCells ks a b).map fun t => (.bool (if neg then !t else t), none, mem)
    | _, _ => none
  | .eqb neg x y => match ev x, ev y with
    | .bool a, .bool b => some (.bool (if neg then !(a == b) else a == b), none, mem)
    | _, _ => none
  | .isnil neg k x => (isNil k (ev x)).map fun t => (.bool (if neg then !t else t), none, mem)
  | .un op x => (aUn op (ev x)).map fun v => (v, none, mem)
  | .conv k x => (aConv k (ev x)).map fun v => (v, none, mem)
  | .mkif t x => some (.iface t (ev x), none, mem)
  | .mkfn f a b => some (.fn f (a.map ev) (b.map ev), none, mem)
  | .fa off x => (padd (ev x) off).map fun v => (v, none, mem)
  | .fld ag off n x => match ev x with
    | .agg l => if off + n ≤ l.length then (asElem ag ((l.drop off).take n)).map fun v => (v, none, mem) else none
    | _ => none
  | .ia sz x i => match ev x, ev i with
    | .list _ l, .int _ n => if 0 ≤ n ∧ n < l.length then
        match l[n.toNat]? with
        | some e => if e.cells.length = sz then some (.ref e.cells, none, mem) else none
        | none => none
      else none
    | .sl _ id off m _, .int _ n => if 0 ≤ n ∧ n < m then some (.gptr id (off + n.toNat * sz), none, mem) else none
    | _, _ => none
  | .iaa len sz x i => match ev i with
    | .int _ n => if 0 ≤ n ∧ n < len then (padd (ev x) (n.toNat * sz)).map fun v => (v, none, mem) else none
    | _ => none
  | .ixa ag len sz x i => match ev x, ev i with
    | .agg l, .int _ n => if 0 ≤ n ∧ n < len ∧ l.length = len * sz then (asElem ag ((l.drop (n.toNat * sz)).take sz)).map fun v => (v, none, mem) else none
    | _, _ => none
  | .ixs x i => match ev x, ev i with
    | .str s, .int _ n => if 0 ≤ n then (s[n.toNat]?).map fun (b : Nat) => (AV.int .u8 (Int.ofNat b), none, mem) else none
    | _, _ => none
  | .lookup kk zero ok m k => match ev m with
    | .nilmap => if isKey kk (ev k) then some (if ok then .tup [zero, .bool false] else zero, none, mem) else none
    | .map id => match mem.blks[id]? with
      | some (.map es) => if isKey kk (ev k) then (mfind (ev k) es).map fun r => match r with
          | some v => (if ok then .tup [v, .bool true] else v, none, mem)
          | none => (if ok then .tup [zero, .bool false] else zero, none, mem)
        else none
      | _ => none
    | _ => none
  | .mapup kk m k v => match ev m with
    | .map id => match mem.blks[id]? with
      | some (.map es) => if isKey kk (ev k) && plain (ev v) then (mset (ev k) (ev v) es).map fun es' => (.undef, none, mem.put id (.map es') true) else none
      | _ => none
    | _ => none
  | .mkmap => some (.map mem.blks.length, none, mem.push (.map []))
  | .slc sz x lo hi mx => match ev x with
    | .list c l => if l.all fun e => decide (e.cells.length = sz) then
        match bound ev l.length mx l.length with
        | some m => match bound ev m hi l.length with
          | some h => match bound ev h lo 0 with
            | some b => some (.list (if c = .nil then .nil else if mx.isSome then (if m = h then .full else .any) else if c = .full ∧ h = l.length then .full else .any) ((l.take h).drop b), none, mem)
            | none => none
          | none => none
        | none => none
      else none
    | _ => none
  | .slcs x lo hi => match ev x with
    | .str s => match bound ev s.length hi s.length with
      | some h => match bound ev h lo 0 with
        | some b => some (.str ((s.take h).drop b), none, mem)
        | none => none
      | none => none
    | _ => none
  | .ext x k => match ev x with
    | .tup l => (l[k]?).map fun v => (v, none, mem)
    | _ => none
  | .call f args => (callv (ev f) (args.map ev) mem).map fun (v, m) => (v, none, m)
  | .app ag sz bytes e x y => (aApp mem ag sz bytes e (ev x) (ev y)).map fun (v, m) => (v, none, m)
  | .len x => match ev x with
    | .list _ l => some (.int .i64 l.length, none, mem)
    | .sl _ _ _ n _ => some (.int .i64 n, none, mem)
    | _ => none
  | .mkslc kd z bytes n c => match ev n, ev c with
    | .int _ n, .int _ c => if 0 ≤ n ∧ n ≤ c ∧ (bytes : Int) * c ≤ 281474976710656 ∧ c ≤ 9223372036854775807 then
        some (.sl kd mem.blks.length 0 n.toNat c.toNat, none, mem.push (.cells ((rep c.toNat z).map mem.nol)))
      else none
    | _, _ => none
  | .cpy sz x y => match ev x with
    | .sl _ id off n _ => match cellsOf mem sz (ev y) with
      | some (k, cs) => (wr (fun _ => none) mem (.gptr id off) (cs.take (Nat.min k n * sz))).map fun (_, m) => (.int .i64 (Nat.min k n : Nat), none, m)
      | none => none
    | _ => none
  | .clr z x => match ev x with
    | .list _ [] => some (.undef, none, mem)
    | .sl _ id off n _ => if n = 0 then some (.undef, none, mem) else (wr (fun _ => none) mem (.gptr id off) (rep n z)).map fun (_, m) => (.undef, none, m)
    | _ => none
  | .lens x => match ev x with
    | .str s => some (.int .i64 s.length, none, mem)
    | _ => none
  | .lenc n => some (.int .i64 n, none, mem)
  | .lenm x => match ev x with
    | .nilmap => some (.int .i64 0, none, mem)
    | .map id => match mem.blks[id]? with
      | some (.map es) => some (.int .i64 es.length, none, mem)
      | _ => none
    | _ => none
  | .del kk m k => match ev m with
    | .map id => match mem.blks[id]? with
      | some (.map es) => if isKey kk (ev k) then (mdel (ev k) es).map fun es' => (.undef, none, mem.put id (.map es') true) else none
      | _ => none
    | _ => none
  | .max x y => match ev x, ev y with
    | .int k a, .int k' b => if k = k' then some (.int k (if b > a then b else a), none, mem) else none
    | _, _ => none
  | .min x y => match ev x, ev y with
    | .int k a, .int k' b => if k = k' then some (.int k (if b < a then b else a), none, mem) else none
    | _, _ => none
  | .rng x => match ev x, dst with
    | .str s, some d => some (.lptr d (newVer lk d) 0, some (d, newVer lk d, .iter s 0), mem)
    | _, _ => none
  | .nxt x => match ev x with
    | .lptr d v 0 => match lk d with
      | some (v', .iter s pos) => if v' = v then
          if pos < s.length then
            let r := Utf8.decode ⟨(s.map UInt8.ofNat).toArray⟩ pos
            some (.tup [.bool true, .int .i64 pos, .int .i32 r.1], some (d, v, .iter s (pos + r.2)), mem)
          else some (.tup [.bool false], none, mem)
        else none
      | _ => none
    | _ => none

end Go.Abs
