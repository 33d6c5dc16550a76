/- A text of this proof. -/
import Derived.Test.YtiigojkfojnedaaGreatDoorPH
import Derived.Laws.Strings
import Derived.Laws.StructEq
set_option linter.unusedVariables false
set_option linter.unusedSimpArgs false
namespace Go.Abs
section
variable {P : Program} {g : Gh} {lb : LB} {w : World}
theorem nats_inj {a b : List UInt8} (h : a.map UInt8.toNat = b.map UInt8.toNat) : a = b := by
 induction a generalizing b with
 | nil => cases b with
  | nil => rfl
  | cons => simp at h
 | cons x a ih => cases b with
  | nil => simp at h
  | cons y b =>
   simp only [List.map_cons,List.cons.injEq] at h
   rw [UInt8.toNat_inj.1 h.1,ih h.2]
theorem natsLess_eq (a b : List UInt8) : natsLess (a.map UInt8.toNat) (b.map UInt8.toNat) = Op.bytesLess a b := by
 induction a generalizing b with
 | nil => cases b <;> rfl
 | cons x a ih =>
  cases b with
  | nil => rfl
  | cons y b =>
   simp only [List.map_cons,natsLess,Op.bytesLess,ih]
   congr 1
   congr 1
   by_cases h : x = y
   ·subst h; simp
   ·have : x.toNat ≠ y.toNat := fun e => h (UInt8.toNat_inj.1 e)
    simp [h,this]
theorem str_eq {a b : ByteArray} {s t : List Nat} (ha : a.data.toList.map UInt8.toNat = s) (hb : b.data.toList.map UInt8.toNat = t) : (a.toList == b.toList) = decide (s = t) := by
 rw [ByteArray.toList_eq,ByteArray.toList_eq]
 subst ha hb
 by_cases h : a.data.toList = b.data.toList
 ·rw [h]; simp
 ·have h2 : a.data.toList.map UInt8.toNat ≠ b.data.toList.map UInt8.toNat := fun e => h (nats_inj e)
  rw [decide_eq_false h2]
  exact beq_eq_false_iff_ne.2 h
theorem str_len {a : ByteArray} {s : List Nat} (ha : a.data.toList.map UInt8.toNat = s) : a.size = s.length := by subst ha; simp
theorem aInt_spec {op : BinOp} {k : IntKind} {a b : Int} {v : AV} (h : aInt op k a b = some v) :
  ∃ x,(match op with
   | .add | .sub | .mul => Op.intArith op k a b
   | .quo | .rem => Op.intDiv op k a b
   | .and | .or | .xor | .andNot => Op.intBits op k a b
   | _ => Op.intCmp op a b).run P w = .ok x w /\ VR g lb v x := by
 cases op <;> simp only [aInt] at h
 case quo =>
  split at h
  ·cases h
  ·rename_i hb; cases h
   exact ⟨_,by simp [Op.intDiv,hb],.int _ _ _⟩
 case rem =>
  split at h
  ·cases h
  ·rename_i hb; cases h
   exact ⟨_,by simp [Op.intDiv,hb],.int _ _ _⟩
 all_goals first | (cases h; done) | (cases h; first | exact ⟨_,rfl,.int _ _ _⟩ | exact ⟨_,rfl,.bool _ _⟩)
theorem aStr_spec {op : BinOp} {a b : ByteArray} {s t : List Nat} {v : AV} (ha : a.data.toList.map UInt8.toNat = s) (hb : b.data.toList.map UInt8.toNat = t) (h : aStr op s t = some v) :
  ∃ x,(Op.stringOp op a b).run P w = .ok x w /\ VR g lb v x := by
 have he := str_eq ha hb
 have hl : natsLess s t = Op.bytesLess a.toList b.toList := by rw [ByteArray.toList_eq,ByteArray.toList_eq,<- natsLess_eq,ha,hb]
 have hs : (a.size + b.size : Nat) = s.length + t.length := by rw [str_len ha,str_len hb]
 cases op <;> simp only [aStr] at h
 case add =>
  split at h
  ·cases h
  ·rename_i hc; cases h
   rw [<- hs] at hc
   refine ⟨.string (a ++ b),by simp only [Op.stringOp,if_neg hc]; rfl,.str _ _ _ ?_⟩
   rw [<- ha,<- hb]
   simp
 all_goals first | (cases h; done) | (cases h; exact ⟨_,by simp only [Op.stringOp,he,hl]; rfl,.bool _ _⟩)
theorem run_equalIn_bool (d : Nat) {t : TypeId} (hu : P.underlying t = some .bool) (a b : Bool) : (Op.equalIn (d + 1) t (.bool a) (.bool b)).run P w = .ok (a == b) w := by
 simp only [Op.equalIn,Sem.run_bind,run_underlying hu,Result.andThen_ok]; rfl
theorem aBin_spec {op : BinOp} {t : TypeId} {x y : AV} {xv yv : Value} {v : AV} (hx : VR g lb x xv) (hy : VR g lb y yv) (h : aBin op x y = some v) :
  ∃ r,(binOp op t xv yv).run P w = .ok r w /\ VR g lb v r := by
 unfold aBin at h
 split at h
 ·rename_i k a k' b
  cases hx; cases hy
  cases op
  case shl =>
   dsimp only at h
   split at h
   ·cases h
   ·rename_i hc; cases h
    exact ⟨_,by simp [binOp,Op.shift,hc],.int _ _ _⟩
  case shr =>
   dsimp only at h
   split at h
   ·cases h
   ·rename_i hc; cases h
    exact ⟨_,by simp [binOp,Op.shift,hc],.int _ _ _⟩
  all_goals
   dsimp only at h
   split at h
   ·rename_i hk; subst hk
    obtain ⟨r,h1,h2⟩ := aInt_spec (P := P) (w := w) (g := g) (lb := lb) h
    exact ⟨r,by simpa [binOp] using h1,h2⟩
   ·cases h
 ·cases hx; cases hy
  rename_i ha _ hb'
  obtain ⟨r,h1,h2⟩ := aStr_spec (P := P) (w := w) (g := g) (lb := lb) ha hb' h
  exact ⟨r,by cases op <;> simpa [binOp] using h1,h2⟩
 ·cases h
theorem aUn_spec {op : UnOp} {x : AV} {xv : Value} {v : AV} (hx : VR g lb x xv) (h : aUn op x = some v) : ∃ r,(Op.unary op xv).run P w = .ok r w /\ VR g lb v r := by
 unfold aUn at h
 split at h
 ·cases hx; cases h; exact ⟨_,rfl,.int _ _ _⟩
 ·cases hx; cases h; exact ⟨_,rfl,.bool _ _⟩
 ·cases h
theorem padd_spec {p : AV} {x : Value} {off : Nat} {v : AV} (hx : VR g lb p x) (h : padd p off = some v) : ∃ a : Addr,x = .pointer (some a) /\ VR g lb v (.pointer (some (a.add off))) := by
 unfold padd at h
 split at h
 ·cases hx; rename_i b hb; cases h
  exact ⟨_,rfl,by rw [Addr.add_mid]; exact .lptr _ _ _ _ _ hb⟩
 ·cases hx; rename_i b hb; cases h
  exact ⟨_,rfl,by rw [Addr.add_mid]; exact .gptr _ _ _ _ hb⟩
 ·split at h
  ·rename_i l hle
   cases hx; rename_i b o xs him hv; cases h
   refine ⟨_,rfl,?_⟩
   rw [Addr.add_mid]
   refine .ref _ _ b (o + off) (fun i => xs (off + i)) (fun i hi => ?_) (fun i hi => ?_)
   ·have := him (off + i) (by simp at hi; omega)
    rwa [<- Nat.add_assoc] at this
   ·simp only [List.getElem_drop]
    exact hv (off + i) (by simp at hi; omega)
  ·cases h
 ·cases h
theorem asElem_spec {ag : Bool} {l : List AV} {a : Array Value} {v : AV} (hp : PW (VR g lb) l a.toList) (h1 : ∀ v ∈ a.toList,v.oneCell' = true) (h : asElem ag l = some v) :
  (ag = true -> VR g lb v (.agg a)) /\ (ag = false -> ∃ x,a = #[x] /\ VR g lb v x) := by
 have hlen : l.length = a.size := by simpa using hp.1
 unfold asElem at h
 split at h
 ·rename_i hag; cases h
  refine ⟨fun _ => .agg _ _ _ hlen.symm (fun i hi => h1 _ (by simp)) (fun i hi hi' => by have := hp.2 i hi (by simpa using hi'); rwa [Array.getElem_toList] at this),fun hf => by rw [hag] at hf; cases hf⟩
 ·rename_i hag
  unfold single at h
  split at h
  ·cases h
   refine ⟨fun hf => absurd hf hag,fun _ => ?_⟩
   obtain ⟨xs⟩ := a
   match xs,hlen with
   | [x],_ => exact ⟨x,rfl,hp.2 0 (by simp) (by simp)⟩
  ·cases h
theorem part_spec {l : List AV} {a : Array Value} {t : TypeId} {off n : Nat} {ag : Bool} {v : AV} (hl : VR g lb (.agg l) (.agg a)) (hle : off + n <= l.length)
  (hag : (isAgg t).run P w = .ok ag w) (hsz : (sizeOf t).run P w = .ok n w) (h : asElem ag ((l.drop off).take n) = some v) : ∃ r,(part t a off).run P w = .ok r w /\ VR g lb v r := by
 cases hl with
 | agg _ _ _ hs h1 hv =>
 have hp0 : PW (VR g lb) l a.toList := ⟨by simpa using hs.symm,fun i hi hi' => by simpa using hv i hi (by simpa using hi')⟩
 have hp : PW (VR g lb) ((l.drop off).take n) (a.extract off (off + n)).toList := by
  have := (hp0.drop off).take n
  simpa [Array.toList_extract,List.extract_eq_take_drop] using this
 have h1' : ∀ v ∈ (a.extract off (off + n)).toList,v.oneCell' = true := by
  intro v hv'
  have : v ∈ a.toList := by
   rw [Array.toList_extract,List.extract_eq_take_drop] at hv'
   exact List.mem_of_mem_drop (List.mem_of_mem_take hv')
  obtain ⟨i,hi,rfl⟩ := List.mem_iff_getElem.1 this
  simpa using h1 i (by simpa using hi)
 obtain ⟨k1,k2⟩ := asElem_spec hp h1' h
 cases ag with
 | true => exact ⟨_,by simp [part,hag,hsz],k1 rfl⟩
 | false =>
  obtain ⟨x,hx,hvx⟩ := k2 rfl
  have hsz1 : (a.extract off (off + n)).size = 1 := by rw [hx]; rfl
  have hn : n = 1 := by simp at hsz1; omega
  subst hn
  have hget : a[off]? = some x := by
   have h0 := congrArg (fun z : Array Value => z[0]?) hx
   have hlt : off < a.size := by omega
   simp only [Array.getElem?_extract] at h0
   rw [if_pos (by omega)] at h0
   simpa using h0
  exact ⟨x,by simp [part,hag,hget],hvx⟩
def NK.fits (P : Program) (t : TypeId) : NK -> Value -> Prop
 | .ptr,v => (∃ e,P.underlying t = some (.pointer e)) /\ v = .pointer none
 | .slice,v => (∃ e,P.underlying t = some (.slice e)) /\ v = .slice none 0 0
 | .fn,v => (∃ a b c,P.underlying t = some (.func a b c)) /\ v = .nilFunc
 | .iface,v => (∃ m,P.underlying t = some (.interface m)) /\ v = .nilIface
 | .map,v => (∃ k e,P.underlying t = some (.map k e)) /\ v = .map none
theorem isNil_spec {t : TypeId} {k : NK} {x : AV} {xv nilv : Value} {r : Bool} (hx : VR g lb x xv) (h : isNil k x = some r) (ht : k.fits P t nilv) :
  (Op.equal t xv nilv).run P w = .ok r w := by
 have key : ∀ d,(Op.equalIn (d + 1) t xv nilv).run P w = .ok r w := by
  intro d
  unfold isNil at h
  split at h <;> first | (cases h; done) | skip
  all_goals cases h
  all_goals first
   | (obtain ⟨⟨e,hu⟩,rfl⟩ := ht; cases hx <;> first | (simp only [Op.equalIn,Sem.run_bind,run_underlying hu,Result.andThen_ok]; rfl) | (exfalso; simp_all [capOK]; done))
   | (obtain ⟨⟨e,e',hu⟩,rfl⟩ := ht; cases hx <;> (simp only [Op.equalIn,Sem.run_bind,run_underlying hu,Result.andThen_ok]; rfl))
   | (obtain ⟨⟨e,e',e'',hu⟩,rfl⟩ := ht; cases hx <;> (simp only [Op.equalIn,Sem.run_bind,run_underlying hu,Result.andThen_ok]; rfl))
 exact key 9999
end
end Go.Abs
namespace Go.Abs
def absC1 : Value -> Option AV
 | .bool b => some (.bool b)
 | .int k n => some (.int k n)
 | .string s => some (.str (s.data.toList.map UInt8.toNat))
 | .pointer none => some .nilp
 | .slice none 0 0 => some (.list .nil [])
 | .map none => some .nilmap
 | .nilFunc => some .nilfn
 | .nilIface => some .nilif
 | _ => none
def absCs : List Value -> Option (List AV)
 | [] => some []
 | v :: l => match absC1 v,absCs l with
  | some a,some m => some (a :: m)
  | _,_ => none
def absC : Value -> Option AV
 | .agg cs => (absCs cs.toList).map .agg
 | .tuple a => if a.size = 0 then some .undef else none
 | .func (.func f) a b => if a.size = 0 /\ b.size = 0 then some (.fn (.func f) [] []) else none
 | v => absC1 v
def cOpd : Operand -> Option Opd
 | .tmp t => some (.t t)
 | .const v => (absC v).map .c
 | .global g => some (.g g)
 | .func f => some (.c (.fn (.func f) [] []))
def cOpds : List Operand -> Option (List Opd)
 | [] => some []
 | x :: l => match cOpd x,cOpds l with
  | some a,some m => some (a :: m)
  | _,_ => none
section
variable (P : Program)
def tySz (t : TypeId) : Option Nat := match P.info? t with
 | some i => if 0 < i.size then some i.size else none
 | none => none
def tyAg (t : TypeId) : Option Bool := match P.underlying t with
 | some (.struct _) => some true
 | some (.array _ _) => some true
 | some _ => some false
 | none => none
def tyZero (t : TypeId) : Option (List AV) := match P.info? t with
 | some i => match i.zero with
  | some z => match absC z with
   | some v => if 0 < i.size /\ z.cells.size = i.size /\ v.cells.length = i.size then some v.cells else none
   | none => none
  | none => none
 | none => none
def tyZeroV (t : TypeId) : Option AV := match P.info? t with
 | some i => match i.zero with
  | some z => absC z
  | none => none
 | none => none
def tyField (s : TypeId) (f : Nat) : Option (Nat × TypeId) := match P.underlying s with
 | some (.struct fields) => match fields[f]? with
  | some fd => some (fd.offset,fd.type)
  | none => none
 | _ => none
def places : List Field -> Option (List (Nat × Nat))
 | [] => some []
 | f :: l => match P.info? f.type,places l with
  | some i,some m => some ((f.offset,i.size) :: m)
  | _,_ => none
def cPartsS (fields : Array Field) : List (Nat × Operand) -> Option (List (Nat × Nat × Opd))
 | [] => some []
 | (i,x) :: l => match fields[i]?,cOpd x,cPartsS fields l with
  | some fd,some x',some l' => match tySz P fd.type with
   | some n => some ((fd.offset,n,x') :: l')
   | none => none
  | _,_,_ => none
def cPartsA (sz : Nat) : List (Nat × Operand) -> Option (List (Nat × Nat × Opd))
 | [] => some []
 | (i,x) :: l => match cOpd x,cPartsA sz l with
  | some x',some l' => some ((i * sz,sz,x') :: l')
  | _,_ => none
def dense : Nat -> List (Nat × Operand) -> Option (List Operand)
 | _,[] => some []
 | k,(i,x) :: l => if i = k then (dense (k + 1) l).map (x :: ·) else none
def keyKind (t : TypeId) : Option KK := match P.underlying t with
 | some (.int _) => some .int
 | some .string => some .str
 | some .bool => some .bool
 | _ => none
def flatFields : Nat -> List Field -> Option (List KK)
 | _,[] => some []
 | k,f :: l => match keyKind P f.type,tySz P f.type,flatFields (k + 1) l with
  | some kk,some 1,some ks => if f.name ≠ "_" /\ f.offset = k then some (kk :: ks) else none
  | _,_,_ => none
def flatTy (t : TypeId) : Option (List KK) :=
 if P.eqGuardType P.depth t then none else
 match P.underlying t with
  | some (.struct fields) => if P.stoodInHeld t then none else flatFields P 0 fields.toList
  | some (.array n e) => match keyKind P e,tySz P e with
   | some kk,some 1 => some (List.replicate n kk)
   | _,_ => none
  | _ => none
def cOpt : Option Operand -> Option (Option Opd)
 | none => some none
 | some x => (cOpd x).map some
def nilOf : NK -> Operand -> Bool
 | .ptr,.const (.pointer none) => true
 | .slice,.const (.slice none 0 0) => true
 | .fn,.const .nilFunc => true
 | .iface,.const .nilIface => true
 | .map,.const (.map none) => true
 | _,_ => false
def cNil (k : NK) (op : BinOp) (x : Opd) (y : Operand) : Option AO :=
 if nilOf k y then match op with
  | .eql => some (.isnil false k x)
  | .neq => some (.isnil true k x)
  | _ => none
 else none
def tyBld (t : TypeId) : Option TypeId := match P.info? t with
 | some i => match i.desc,i.zero,P.underlying t with
  | .named "strings.Builder" _,some (.agg ⟨[.pointer none,.slice none 0 0]⟩),some (.struct ⟨[_,fd]⟩) => match P.underlying fd.type with
   | some (.slice e) => some e
   | _ => none
  | _,_,_ => none
 | none => none
def copO (esc : Nat -> Bool) (o : Oper) : Option AO :=
 match o.op with
 | .move x => (cOpd x).map .mv
 | .assign x => (cOpd x).map .mv
 | .pick c a b => match cOpd c,cOpd a,cOpd b with
  | some c,some a,some b => some (.pick c a b)
  | _,_,_ => none
 | .alloc e => match o.dst,tyZero P e with
  | some d,some z => match (if esc d then tyBld P e else none) with
   | some be => some (.abld e be)
   | none => some (.alloc (esc d) z)
  | _,_ => none
 | .box e x => match o.dst,tySz P e,cOpd x with
  | some d,some n,some x => some (.box (esc d) n x)
  | _,_,_ => none
 | .build t parts => match tyZero P t,P.underlying t with
  | some z,some (.struct fields) => match places P fields.toList with
   | some _ => (cPartsS P fields parts.toList).map (.build z)
   | none => none
  | some z,some (.array _ e) => match tySz P e with
   | some sz => (cPartsA sz parts.toList).map (.build z)
   | none => none
  | _,_ => none
 | .buildSlice t len parts => match P.underlying t,dense 0 parts.toList with
  | some (.slice e),some xs => match tySz P e,tyAg P e,tyZero P e,cOpds xs with
   | some sz,some ag,some _,some xs' => if xs.length = len /\ len * sz <= 2 ^ 24 then some (.bslice ag sz xs') else none
   | _,_,_,_ => none
  | _,_ => none
 | .load t a => match tyAg P t,tySz P t,cOpd a with
  | some ag,some n,some a => some (.ld ag n a)
  | _,_,_ => none
 | .store t a x => match tySz P t,cOpd a,cOpd x with
  | some n,some a,some x => some (.st n a x)
  | _,_,_ => none
 | .nilCheck x => (cOpd x).map .nilck
 | .binOp op t x y _ =>
  match P.underlying t,cOpd x,cOpd y with
  | some (.int _),some x',some y' => some (.bin op x' y')
  | some .string,some x',some y' => some (.bin op x' y')
  | some .bool,some x',some y' => (match op with
    | .eql => some (.eqb false x' y')
    | .neq => some (.eqb true x' y')
    | _ => none)
  | some (.struct _),some x',some y' => (match flatTy P t,op with
    | some ks,.eql => some (.eqs false ks x' y')
    | some ks,.neq => some (.eqs true ks x' y')
    | _,_ => none)
  | some (.array _ _),some x',some y' => (match flatTy P t,op with
    | some ks,.eql => some (.eqs false ks x' y')
    | some ks,.neq => some (.eqs true ks x' y')
    | _,_ => none)
  | some (.pointer _),some x',some _ => cNil .ptr op x' y
  | some (.slice _),some x',some _ => cNil .slice op x' y
  | some (.func _ _ _),some x',some _ => cNil .fn op x' y
  | some (.interface _),some x',some _ => cNil .iface op x' y
  | some (.map _ _),some x',some _ => cNil .map op x' y
  | _,_,_ => none
 | .makeSlice t n c => match P.underlying t,cOpd n,cOpd c with
  | some (.slice e),some n,some c => match tyZero P e,P.info? e with
   | some z,some i => some (.mkslc (if (tyAg P e).getD true then z.length else 0) z i.bytes n c)
   | _,_ => none
  | _,_,_ => none
 | .unOp op _ x => (cOpd x).map (.un op)
 | .convert s d x => match P.underlying s,P.underlying d,cOpd x with
  | some _,some (.int k),some x => some (.conv (.int k) x)
  | some .string,some .string,some x => some (.conv .same x)
  | some (.int _),some .string,some x => some (.conv .char x)
  | _,_,_ => none
 | .makeInterface t x => match P.underlying t,cOpd x with
  | some (.interface _),_ => none
  | some _,some x => some (.mkif t x)
  | _,_ => none
 | .makeFunc (.func f) a b => match cOpds a.toList,cOpds b.toList with
  | some a,some b => some (.mkfn (.func f) a b)
  | _,_ => none
 | .fieldAddr s x f => match tyField P s f,cOpd x with
  | some (off,t),some x => match tySz P t with
   | some _ => some (.fa off x)
   | none => none
  | _,_ => none
 | .field s x f => match tyField P s f,cOpd x with
  | some (off,t),some x => match tySz P t,tyAg P t with
   | some n,some ag => some (.fld ag off n x)
   | _,_ => none
  | _,_ => none
 | .indexAddr t x i => match P.underlying t,cOpd x,cOpd i with
  | some (.slice e),some x,some i => (tySz P e).map fun sz => .ia sz x i
  | some (.array n e),some x,some i => (tySz P e).map fun sz => .iaa n sz x i
  | _,_,_ => none
 | .index t x i => match P.underlying t,cOpd x,cOpd i with
  | some (.array n e),some x,some i => match tySz P e,tyAg P e with
   | some sz,some ag => some (.ixa ag n sz x i)
   | _,_ => none
  | some .string,some x,some i => some (.ixs x i)
  | _,_,_ => none
 | .lookup t m k ok => match P.underlying t,cOpd m,cOpd k with
  | some (.map kt e),some m,some k => match tyZeroV P e,keyKind P kt with
   | some z,some kk => some (.lookup kk z ok m k)
   | _,_ => none
  | _,_,_ => none
 | .mapUpdate t m k v => match P.underlying t,cOpd m,cOpd k,cOpd v with
  | some (.map kt _),some m,some k,some v => (keyKind P kt).map fun kk => .mapup kk m k v
  | _,_,_,_ => none
 | .insert t m k v => match P.underlying t,cOpd m,cOpd k,cOpd v with
  | some (.map kt _),some m,some k,some v => (keyKind P kt).map fun kk => .mapup kk m k v
  | _,_,_,_ => none
 | .makeMap _ none => some .mkmap
 | .makeMap t (some (.const (.int _ _))) => match P.underlying t with
  | some (.map _ _) => some .mkmap
  | _ => none
 | .slice t x lo hi mx => match P.underlying t,cOpd x,cOpt lo,cOpt hi,cOpt mx with
  | some (.slice e),some x,some lo,some hi,some mx => if mx.isSome && !hi.isSome then none else (tySz P e).map fun sz => .slc sz x lo hi mx
  | some .string,some x,some lo,some hi,some none => some (.slcs x lo hi)
  | _,_,_,_,_ => none
 | .extract x k => (cOpd x).map fun x => .ext x k
 | .call c => match c.callee with
  | .value f => match cOpd f,cOpds c.args.toList with
   | some f,some args => some (.call f args)
   | _,_ => none
  | .builtin .append => match c.args.toList,c.argTypes.toList with
   | [x,y],[t,t'] => match P.underlying t,cOpd x,cOpd y with
    | some (.slice e),some x,some y => match P.info? e,tyAg P e,tyZero P e with
     | some i,some ag,some _ => if t = t' then some (.app ag i.size i.bytes e x y) else none
     | _,_,_ => none
    | _,_,_ => none
   | _,_ => none
  | .builtin .len => match c.args.toList,c.argTypes.toList with
   | [x],[t] => match P.underlying t,cOpd x with
    | some .string,some x => some (.lens x)
    | some (.slice _),some x => some (.len x)
    | some (.map _ _),some x => some (.lenm x)
    | some (.array n _),some _ => some (.lenc n)
    | _,_ => none
   | _,_ => none
  | .builtin .delete => match c.args.toList,c.argTypes.toList with
   | [m,k],t :: _ => match P.underlying t,cOpd m,cOpd k with
    | some (.map kt _),some m,some k => (keyKind P kt).map fun kk => .del kk m k
    | _,_,_ => none
   | _,_ => none
  | .builtin .copy => match c.args.toList,c.argTypes.toList with
   | [x,y],t :: _ => match P.underlying t,cOpd x,cOpd y with
    | some (.slice e),some x,some y => (tySz P e).map fun sz => .cpy sz x y
    | _,_,_ => none
   | _,_ => none
  | .builtin .clear => match c.args.toList,c.argTypes.toList with
   | [x],[t] => match P.underlying t,cOpd x with
    | some (.slice e),some x => (tyZero P e).map fun z => .clr z x
    | _,_ => none
   | _,_ => none
  | .builtin .max => match c.args.toList with
   | [x,y] => match cOpd x,cOpd y with
    | some x,some y => some (.max x y)
    | _,_ => none
   | _ => none
  | .builtin .min => match c.args.toList with
   | [x,y] => match cOpd x,cOpd y with
    | some x,some y => some (.min x y)
    | _,_ => none
   | _ => none
  | _ => none
 | .range t x => match P.underlying t,cOpd x with
  | some .string,some x => some (.rng x)
  | _,_ => none
 | .next x true => (cOpd x).map .nxt
 | _ => none
def cop (esc : Nat -> Bool) (o : Oper) : AO := (copO P esc o).getD .bad
end
section
variable {P : Program} {g : Gh} {lb : LB}
theorem absC1_spec {v : Value} {a : AV} (h : absC1 v = some a) : VR g lb a v /\ v.oneCell' = true := by
 unfold absC1 at h
 split at h <;> first | (cases h; done) | skip
 all_goals (cases h; refine ⟨?_,rfl⟩)
 ·exact .bool _ _
 ·exact .int _ _ _
 ·exact .str _ _ _ rfl
 ·exact .nilp _
 ·exact .listNil _
 ·exact .nilmap _
 ·exact .nilfn _
 ·exact .nilif _
theorem absCs_spec {l : List Value} {m : List AV} (h : absCs l = some m) : PW (VR g lb) m l /\ ∀ v ∈ l,v.oneCell' = true := by
 induction l generalizing m with
 | nil => cases h; exact ⟨PW.nil,by simp⟩
 | cons v l ih =>
  simp only [absCs] at h
  split at h
  ·rename_i a m' h1 h2
   cases h
   obtain ⟨k1,k2⟩ := ih h2
   obtain ⟨k3,k4⟩ := absC1_spec (g := g) (lb := lb) h1
   exact ⟨PW.cons k3 k1,by simp only [List.mem_cons,forall_eq_or_imp]; exact ⟨k4,k2⟩⟩
  ·cases h
theorem absC_spec {v : Value} {a : AV} (h : absC v = some a) : VR g lb a v := by
 unfold absC at h
 split at h
 ·rename_i cs
  simp only [Option.map_eq_some_iff] at h
  obtain ⟨l,hl,rfl⟩ := h
  obtain ⟨k1,k2⟩ := absCs_spec (g := g) (lb := lb) hl
  exact .agg _ _ _ (by simpa using k1.1.symm) (fun i hi => k2 _ (by simp)) (fun i hi hi' => by have := k1.2 i hi (by simpa using hi'); rwa [Array.getElem_toList] at this)
 ·rename_i a
  split at h
  ·rename_i h0; cases h
   have : a = #[] := Array.size_eq_zero_iff.1 h0
   subst this; exact .undef _
  ·cases h
 ·rename_i f a b
  split at h
  ·rename_i h0; cases h
   refine .fn _ _ _ _ _ a b h0.1 h0.2 rfl (fun i hi => by simp at hi) (fun i hi => by simp at hi)
  ·cases h
 ·exact (absC1_spec h).1
end
end Go.Abs
namespace Go.Abs
section
variable {P : Program} {base : Nat} {LC : LCR} {g : Gh} {lb : LB} {own : OW} {loc : Nat -> Option (Nat × Blk)} {mem : Mem} {w : World} {esc : Nat -> Bool} {callv : CallV}
variable {ev : Opd -> AV} {a : Act}
def OpOK (P : Program) (base : Nat) (LC : LCR) (g : Gh) (lb : LB) (own : OW) (loc : Nat -> Option (Nat × Blk)) (w : World) (a : Act) (o : Oper) (v : AV) (u : Upd) (m' : Mem) : Prop :=
 ∃ x w',((execOp a.eval o).run P w = .ok (.value x) w' \/ ((execOp a.eval o).run P w = .ok .skip w' /\ x = undef)) /\ Post base LC g lb own loc w v u m' x w'
def EvOK (g : Gh) (lb : LB) (ev : Opd -> AV) (a : Act) : Prop := ∀ x x',cOpd x = some x' -> VR g lb (ev x') (a.eval x)
theorem evs_spec (hev : EvOK g lb ev a) {l : List Operand} {m : List Opd} (h : cOpds l = some m) : PW (VR g lb) (m.map ev) (l.map a.eval) := by
 induction l generalizing m with
 | nil => cases h; exact PW.nil
 | cons x l ih =>
  simp only [cOpds] at h
  split at h
  ·rename_i x' m' h1 h2
   cases h
   exact PW.cons (hev _ _ h1) (ih h2)
  ·cases h
theorem tySz_spec {t : TypeId} {n : Nat} (h : tySz P t = some n) : (sizeOf t).run P w = .ok n w /\ 0 < n /\ (P.info? t).map (·.size) = some n := by
 unfold tySz at h
 split at h
 ·rename_i i hi
  split at h
  ·rename_i h0; cases h
   exact ⟨by simp [sizeOf,typeInfo,hi],h0,by simp [hi]⟩
  ·cases h
 ·cases h
theorem tyAg_spec {t : TypeId} {ag : Bool} (h : tyAg P t = some ag) : (isAgg t).run P w = .ok ag w := by
 unfold tyAg at h
 split at h
 ·rename_i hu; cases h; simp [isAgg,run_underlying hu]
 ·rename_i hu; cases h; simp [isAgg,run_underlying hu]
 ·rename_i d h1 h2 hu
  cases h
  have hd : ∀ w : World,(isAgg t).run P w = (match d with | .struct _ | .array _ _ => (pure true : Sem Bool) | _ => pure false).run P w := fun w => by
   simp only [isAgg,Sem.run_bind,run_underlying hu,Result.andThen_ok]
  rw [hd]
  cases d <;> first | rfl | (exact absurd rfl (h1 _)) | (exact absurd rfl (h2 _ _))
 ·cases h
theorem tyZero_spec {t : TypeId} {l : List AV} (h : tyZero P t = some l) : ∃ z i,P.info? t = some i /\ i.zero = some z /\ (zeroValue t).run P w = .ok z w /\ z.cells.size = i.size /\ l.length = i.size /\ 0 < i.size ∧
  PW (VR g lb) l z.cells.toList /\ ∀ v ∈ z.cells.toList,v.oneCell' = true := by
 unfold tyZero at h
 split at h
 ·rename_i i hi
  split at h
  ·rename_i z hz
   split at h
   ·rename_i v hv
    split at h
    ·rename_i hc; cases h
     have hvr := absC_spec (g := g) (lb := lb) hv
     obtain ⟨k1,k2,k3⟩ := hvr.cells (by intro hn; rw [hn] at hc; simp at hc; omega)
     refine ⟨z,i,hi,hz,by simp [zeroValue,typeInfo,hi,hz],hc.2.1,hc.2.2,hc.1,⟨by simpa using k1.symm,fun i hi hi' => ?_⟩,fun u hu => ?_⟩
     ·have := k2 i hi (by simpa using hi')
      rwa [Array.getElem_toList]
     ·obtain ⟨j,hj,rfl⟩ := List.mem_iff_getElem.1 hu
      have := k3 j (by simpa using hj)
      rwa [Array.getElem_toList]
    ·cases h
   ·cases h
  ·cases h
 ·cases h
theorem pw_cells {v : AV} {x : Value} (h : VR g lb v x) (hn : 0 < v.cells.length) : PW (VR g lb) v.cells x.cells.toList /\ ∀ u ∈ x.cells.toList,u.oneCell' = true := by
 obtain ⟨k1,k2,k3⟩ := h.cells (by intro h0; rw [h0] at hn; simp at hn)
 refine ⟨⟨by simpa using k1.symm,fun i hi hi' => ?_⟩,fun u hu => ?_⟩
 ·have := k2 i hi (by simpa using hi')
  rwa [Array.getElem_toList]
 ·obtain ⟨j,hj,rfl⟩ := List.mem_iff_getElem.1 hu
  have := k3 j (by simpa using hj)
  rwa [Array.getElem_toList]
theorem foldl_set (off : Nat) : ∀ (vs : List Value) (k : Nat) (cs : Array Value),off + k + vs.length <= cs.size →
  ((vs.zipIdx k).foldl (fun cs (c,j) => cs.setIfInBounds (off + j) c) cs).toList = cs.toList.take (off + k) ++ vs ++ cs.toList.drop (off + k + vs.length)
 | [],k,cs,_ => by simp
 | v :: vs,k,cs,h => by
  simp only [List.length_cons] at h
  simp only [List.zipIdx_cons,List.foldl_cons]
  rw [foldl_set off vs (k + 1) (cs.setIfInBounds (off + k) v) (by simp; omega)]
  have := Go.list_seg_step cs.toList (off + k) v vs (by simp; omega)
  simpa [Array.toList_setIfInBounds,Nat.add_assoc,Nat.add_comm,Nat.add_left_comm] using this
theorem fill_spec (hev : EvOK g lb ev a) (place : Nat -> Option (Nat × Nat)) : ∀ (parts : List (Nat × Operand)) (ps : List (Nat × Nat × Opd)) (cs : List AV) (vs : Array Value) (r : List AV),
  parts.length = ps.length -> (∀ k (h : k < parts.length) (h' : k < ps.length),place parts[k].1 = some (ps[k].1,ps[k].2.1) /\ cOpd parts[k].2 = some ps[k].2.2 /\ 0 < ps[k].2.1) →
  PW (VR g lb) cs vs.toList -> (∀ v ∈ vs.toList,v.oneCell' = true) -> fills ev ps cs = some r →
  ∃ ws : Array Value,Instr.fill place vs (parts.map fun (i,x) => (i,a.eval x)) = some ws /\ PW (VR g lb) r ws.toList /\ ∀ v ∈ ws.toList,v.oneCell' = true
 | [],[],cs,vs,r,_,_,hp,h1,hr => by cases hr; exact ⟨vs,rfl,hp,h1⟩
 | [],_ :: _,_,_,_,hl,_,_,_,_ => by simp at hl
 | _ :: _,[],_,_,_,hl,_,_,_,_ => by simp at hl
 | (i,x) :: parts,(off,size,x') :: ps,cs,vs,r,hl,hk,hp,h1,hr => by
  obtain ⟨k1,k2,k3⟩ := hk 0 (by simp) (by simp)
  simp only [List.getElem_cons_zero] at k1 k2 k3
  simp only [fills] at hr
  split at hr
  ·rename_i hc
   obtain ⟨hcl,hle⟩ := hc
   obtain ⟨q1,q2⟩ := pw_cells (hev _ _ k2) (by omega)
   have hsz : (a.eval x).cells.size = size := by have := q1.1; simp at this; omega
   have hvs : vs.size = cs.length := by have := hp.1; simp at this; omega
   let vs' : Array Value := (a.eval x).cells.zipIdx.foldl (fun cs (c,j) => cs.setIfInBounds (off + j) c) vs
   have hvs' : vs'.toList = vs.toList.take off ++ (a.eval x).cells.toList ++ vs.toList.drop (off + (a.eval x).cells.toList.length) := by
    have h := foldl_set off (a.eval x).cells.toList 0 vs (by simp only [Array.length_toList,hsz,hvs]; omega)
    simp only [Nat.add_zero] at h
    rw [<- h]
    simp only [vs',<- Array.foldl_toList,Array.toList_zipIdx]
   have hp' : PW (VR g lb) (splice cs off (ev x').cells) vs'.toList := by
    rw [hvs']; unfold splice
    have hlen := q1.1
    rw [hlen]
    exact ((hp.take off).append q1).append (hp.drop _)
   have h1' : ∀ v ∈ vs'.toList,v.oneCell' = true := by
    rw [hvs']
    intro v hv
    rcases List.mem_append.1 hv with hv | hv
    ·rcases List.mem_append.1 hv with hv | hv
     ·exact h1 _ (List.mem_of_mem_take hv)
     ·exact q2 _ hv
    ·exact h1 _ (List.mem_of_mem_drop hv)
   obtain ⟨ws,e1,e2,e3⟩ := fill_spec hev place parts ps _ vs' r (by simpa using hl) (fun k h h' => by
    have := hk (k + 1) (by simpa using h) (by simpa using h'); simpa using this) hp' h1' hr
   refine ⟨ws,?_,e2,e3⟩
   simp only [List.map_cons,Instr.fill,k1]
   rw [if_neg (by simp [hsz,hvs]; omega)]
   exact e1
  ·cases hr
theorem run_places' {fs : List Field} {m : List (Nat × Nat)} (h : places P fs = some m) : (fs.mapM fun f => do pure (f.offset,<- sizeOf f.type) : Sem (List (Nat × Nat))).run P w = .ok m w ∧
  ∀ (k : Nat) (fd : Field),fs[k]? = some fd -> ∃ i,P.info? fd.type = some i /\ m[k]? = some (fd.offset,i.size) := by
 induction fs generalizing m with
 | nil => cases h; exact ⟨rfl,by simp⟩
 | cons f fs ih =>
  simp only [places] at h
  split at h
  ·rename_i i m' hi hm
   cases h
   obtain ⟨k1,k2⟩ := ih hm
   refine ⟨?_,fun k fd hk => ?_⟩
   ·have hs : (sizeOf f.type).run P w = .ok i.size w := by simp [sizeOf,typeInfo,hi]
    simp only [List.mapM_cons,Sem.run_bind,hs,Result.andThen_ok,Sem.run_pure,k1]
   ·cases k with
    | zero => simp at hk; subst hk; exact ⟨i,hi,by simp⟩
    | succ k => simpa using k2 k fd (by simpa using hk)
  ·cases h
theorem cPartsS_spec {fields : Array Field} {parts : List (Nat × Operand)} {ps : List (Nat × Nat × Opd)} (h : cPartsS P fields parts = some ps) :
  parts.length = ps.length /\ ∀ k (h : k < parts.length) (h' : k < ps.length),(∃ fd,fields[parts[k].1]? = some fd /\ fd.offset = ps[k].1 /\ tySz P fd.type = some ps[k].2.1) /\ cOpd parts[k].2 = some ps[k].2.2 := by
 induction parts generalizing ps with
 | nil => cases h; exact ⟨rfl,fun k h => by simp at h⟩
 | cons p parts ih =>
  obtain ⟨i,x⟩ := p
  simp only [cPartsS] at h
  split at h
  ·rename_i fd x' l' h1 h2 h3
   split at h
   ·rename_i n hn
    cases h
    obtain ⟨e1,e2⟩ := ih h3
    refine ⟨by simp [e1],fun k hk hk' => ?_⟩
    cases k with
    | zero => exact ⟨⟨fd,h1,rfl,hn⟩,h2⟩
    | succ k => exact e2 k (by simpa using hk) (by simpa using hk')
   ·cases h
  ·cases h
theorem cPartsA_spec {sz : Nat} {parts : List (Nat × Operand)} {ps : List (Nat × Nat × Opd)} (h : cPartsA sz parts = some ps) :
  parts.length = ps.length /\ ∀ k (h : k < parts.length) (h' : k < ps.length),ps[k].1 = parts[k].1 * sz /\ ps[k].2.1 = sz /\ cOpd parts[k].2 = some ps[k].2.2 := by
 induction parts generalizing ps with
 | nil => cases h; exact ⟨rfl,fun k h => by simp at h⟩
 | cons p parts ih =>
  obtain ⟨i,x⟩ := p
  simp only [cPartsA] at h
  split at h
  ·rename_i x' l' h2 h3
   cases h
   obtain ⟨e1,e2⟩ := ih h3
   refine ⟨by simp [e1],fun k hk hk' => ?_⟩
   cases k with
   | zero => exact ⟨rfl,rfl,h2⟩
   | succ k => exact e2 k (by simpa using hk) (by simpa using hk')
  ·cases h
theorem agg_of_pw {r : List AV} {ws : Array Value} (h : PW (VR g lb) r ws.toList) (h1 : ∀ v ∈ ws.toList,v.oneCell' = true) : VR g lb (.agg r) (.agg ws) :=
 .agg _ _ _ (by simpa using h.1.symm) (fun i hi => h1 _ (by simp)) fun i hi hi' => by have := h.2 i hi (by simpa using hi'); rwa [Array.getElem_toList] at this
theorem pw_agg {r : List AV} {ws : Array Value} (h : VR g lb (.agg r) (.agg ws)) : PW (VR g lb) r ws.toList /\ ∀ v ∈ ws.toList,v.oneCell' = true := by
 cases h with
 | agg _ _ _ hs h1 hv =>
  refine ⟨⟨by simpa using hs.symm,fun i hi hi' => by rw [Array.getElem_toList]; exact hv i hi _⟩,fun v hv' => ?_⟩
  obtain ⟨j,hj,rfl⟩ := List.mem_iff_getElem.1 hv'
  rw [Array.getElem_toList]; exact h1 j _
theorem run_build (hev : EvOK g lb ev a) {t : TypeId} {parts : Array (Nat × Operand)} {z : List AV} {ps : List (Nat × Nat × Opd)} {r : List AV} (hz : tyZero P t = some z)
  (hps : (∃ fields m,P.underlying t = some (.struct fields) /\ places P fields.toList = some m /\ cPartsS P fields parts.toList = some ps) ∨
   (∃ n e sz,P.underlying t = some (.array n e) /\ tySz P e = some sz /\ cPartsA sz parts.toList = some ps))
  (hr : fills ev ps z = some r) : ∃ x,(Instr.build t (parts.map fun (i,x) => (i,a.eval x))).run P w = .ok x w /\ VR g lb (.agg r) x := by
 obtain ⟨zv,i,hi,hz1,hz2,-,-,-,hpw,h1⟩ := tyZero_spec (P := P) (g := g) (lb := lb) (w := w) hz
 have hmap : (parts.map fun (i,x) => (i,a.eval x)).toList = parts.toList.map fun (i,x) => (i,a.eval x) := by simp
 rcases hps with ⟨fields,m,hu,hpl,hc⟩ | ⟨n,e,sz,hu,hsz,hc⟩
 ·obtain ⟨e1,e2⟩ := cPartsS_spec hc
  obtain ⟨p1,p2⟩ := run_places' (w := w) hpl
  obtain ⟨ws,k1,k2,k3⟩ := fill_spec hev (fun i => m.toArray[i]?) parts.toList ps z zv.cells r e1 (fun k h h' => by
   obtain ⟨⟨fd,q1,q2,q3⟩,q4⟩ := e2 k h h'
   obtain ⟨i',q5,q6⟩ := p2 parts.toList[k].1 fd (by simpa using q1)
   unfold tySz at q3
   rw [q5] at q3
   dsimp only at q3
   split at q3
   ·rename_i h0
    simp only [Option.some.injEq] at q3
    refine ⟨by simp only [List.getElem?_toArray,q6,q2,q3],q4,by rw [<- q3]; exact h0⟩
   ·cases q3) hpw h1 hr
  refine ⟨.agg ws,?_,agg_of_pw k2 k3⟩
  have hmp : (fields.mapM fun f => do pure (f.offset,<- sizeOf f.type) : Sem (Array (Nat × Nat))).run P w = .ok m.toArray w := by
   rw [Array.mapM_eq_mapM_toList]
   simp only [Sem.run_map,p1,Result.andThen_ok]
  simp only [Instr.build,Sem.run_bind,hz2,Result.andThen_ok,run_underlying hu,hmp,hmap,k1]
  rfl
 ·obtain ⟨e1,e2⟩ := cPartsA_spec hc
  obtain ⟨s1,s2,-⟩ := tySz_spec (P := P) (w := w) hsz
  obtain ⟨ws,k1,k2,k3⟩ := fill_spec hev (fun i => some (i * sz,sz)) parts.toList ps z zv.cells r e1 (fun k h h' => by
   obtain ⟨q1,q2,q3⟩ := e2 k h h'
   exact ⟨by rw [q1,q2],q3,by rw [q2]; exact s2⟩) hpw h1 hr
  refine ⟨.agg ws,?_,agg_of_pw k2 k3⟩
  simp only [Instr.build,Sem.run_bind,hz2,Result.andThen_ok,run_underlying hu,s1,hmap,k1]
  rfl
end
end Go.Abs
