/- A text of this proof. -/
import Derived.Test.YtiigojkfojnedaaGreatDoorPBw
import Derived.Lib.Atoi
import Derived.Lib.ItoaNum
import Derived.Lib.Join
import Derived.Lib.Bytealg
set_option linter.unusedVariables false
set_option linter.unusedSimpArgs false
namespace Go.Abs
open Go.RowKit (Below)
def dec2 (n : Nat) : List Nat := if n < 10 then [48 + n] else [48 + n / 10,48 + n % 10]
def pItoa : Prim := fun args m => match args with
 | [.int .i64 n] => if 0 <= n /\ n < 100 then some (.str (dec2 n.toNat),m) else none
 | _ => none
def natOf : Nat -> List Nat -> Option Nat
 | acc,[] => some acc
 | acc,b :: r => if 48 <= b /\ b <= 57 then natOf (acc * 10 + (b - 48)) r else none
def isDig (b : Nat) : Bool := decide (48 <= b) && decide (b <= 57)
def pAtoi (te : TypeId) : Prim := fun args m => match args with
 | [.str s] => match s with
  | [] => some (.tup [.int .i64 0,.iface te .junk],m)
  | b :: r => if r.length <= 17 /\ isDig b = true then (natOf 0 (b :: r)).map fun (n : Nat) => (.tup [.int .i64 (n : Int),.nilif],m) else none
 | _ => none
def strsOf : List AV -> Option (List (List Nat))
 | [] => some []
 | .str s :: l => (strsOf l).map (s :: ·)
 | _ => none
def joinN (sep : List Nat) : List (List Nat) -> List Nat
 | [] => []
 | [x] => x
 | x :: l => x ++ sep ++ joinN sep l
def pJoin : Prim := fun args m => match args with
 | [.list _ [],.str _] => some (.str [],m)
 | [.list _ (x :: l),.str sep] => match strsOf (x :: l) with
  | some l => if (joinN sep l).length <= 140737488355328 /\ l.length <= 140737488355328 then some (.str (joinN sep l),m) else none
  | none => none
 | _ => none
def idxN (c : Nat) : List Nat -> Nat -> Option Nat
 | [],_ => none
 | b :: r,i => if b = c then some i else idxN c r (i + 1)
def pIdx : Prim := fun args m => match args with
 | [.str s,.int .u8 c] => if 0 <= c /\ c < 256 then some (.int .i64 (match idxN c.toNat s 0 with
   | some i => (i : Int)
   | none => -1),m) else none
 | _ => none
def pClone : Prim := fun args m => match args with
 | [.map id] => match m.blks[id]? with
  | some (.map es) => some (.map m.blks.length,m.push (.map es))
  | _ => none
 | _ => none
def pWS (T e : TypeId) : Prim := fun args m => match args with
 | [.gptr id 0,.str s] => match m.blks[id]? with
  | some (.bld T' e' t) => if T' = T /\ e' = e /\ t.length + s.length <= 140737488355328 then some (.tup [.int .i64 s.length,.nilif],m.put id (.bld T e (t ++ s)) true) else none
  | _ => none
 | _ => none
def pStr (T e : TypeId) : Prim := fun args m => match args with
 | [.gptr id 0] => match m.blks[id]? with
  | some (.bld T' e' t) => if T' = T /\ e' = e then some (.str t,m.put id .dead true) else none
  | _ => none
 | _ => none
def pConst (v : AV) : Prim := fun args m => match args with
 | [] => some (v,m)
 | _ => none
section
variable {P : Program} {gl : Nat -> AV} {base : Nat} {LC : LCR} {f : FuncId} {fn : Func}
theorem primOK_below (hf : P.funcs[f]? = some fn) (hb : fn.body.isNone = false) (hn : (fn.name == "runtime.NumGoroutine") = false) {p : Prim}
  (h : ∀ (g : Gh) (own : OW) (mem : Mem) (w : World) (args : List AV) (r : AV) (m' : Mem) (vargs : Array Value),MemR g own LC mem w -> OwnR base own w -> GlR g gl -> PW (VR g noLB) args vargs.toList -> p args mem = some (r,m') →
   m' = mem /\ Calls P f vargs w fun e w' => ∃ x,e = .returned x /\ VR g noLB r x /\ Below w.heap.size w w') : PrimOK Fence.wide P base LC gl f p := by
 intro n g own mem w args r m' vargs hm ho hgl hpw hp
 obtain ⟨rfl,hc⟩ := h g own mem w args r m' vargs hm ho hgl hpw hp
 refine calledR_of_calls hf hb hn (callsIn_wide.2 (hc.mono fun e w' he => ?_))
 obtain ⟨x,rfl,hx,hB⟩ := he
 exact ⟨x,rfl,callPost_below hm ho hgl hB hx⟩
theorem vr_int_inv {g : Gh} {lb : LB} {k : IntKind} {n : Int} {x : Value} (h : VR g lb (.int k n) x) : x = .int k n := by cases h; rfl
theorem vr_str_inv {g : Gh} {lb : LB} {s : List Nat} {x : Value} (h : VR g lb (.str s) x) : ∃ b : ByteArray,x = .string b /\ b.data.toList.map UInt8.toNat = s := by cases h; exact ⟨_,rfl,by assumption⟩
theorem vr_bytes {g : Gh} {lb : LB} {s : List Nat} {l : List UInt8} (h : l.map UInt8.toNat = s) : VR g lb (.str s) (.string ⟨l.toArray⟩) := .str _ _ _ (by simpa using h)
theorem dec2_eq (i : Nat) (hi : i < 100) : (Lib.decDigits i).map UInt8.toNat = dec2 i := by
 have : ∀ j : Fin 100,(Lib.decDigits j.val).map UInt8.toNat = dec2 j.val := by decide +kernel
 exact this ⟨i,hi⟩
theorem ok_itoa (hf : P.funcs[f]? = some fn) (hb : fn.body.isNone = false) (hn : (fn.name == "runtime.NumGoroutine") = false)
  (h : ∀ (i : Nat),i < 100 -> ∀ w,Calls P f #[.int .i64 i] w fun e w' => e = .returned (.string ⟨(Lib.decDigits i).toArray⟩) /\ w' = w) : PrimOK Fence.wide P base LC gl f pItoa := by
 refine primOK_below hf hb hn fun g own mem w args r m' vargs hm ho hgl hpw hp => ?_
 unfold pItoa at hp
 split at hp
 ·rename_i n
  split at hp
  ·rename_i hr
   simp only [Option.some.injEq,Prod.mk.injEq] at hp
   obtain ⟨rfl,rfl⟩ := hp
   obtain ⟨x,rfl,hx⟩ := pw1 hpw
   cases vr_int_inv hx
   obtain ⟨i,rfl⟩ := Int.eq_ofNat_of_zero_le hr.1
   have hi : i < 100 := by omega
   refine ⟨rfl,(h i hi w).mono fun e w' he => ?_⟩
   obtain ⟨rfl,rfl⟩ := he
   exact ⟨_,rfl,vr_bytes (by simpa using dec2_eq i hi),Below.refl _ _⟩
  ·cases hp
 ·cases hp
theorem natOf_eq (l : List UInt8) (acc : Nat) : natOf acc (l.map UInt8.toNat) = Lib.decFrom acc l := by
 induction l generalizing acc with
 | nil => rfl
 | cons b r ih =>
  simp only [List.map_cons,natOf,Lib.decFrom,Lib.digitVal]
  by_cases h : 48 <= b.toNat /\ b.toNat <= 57
  ·rw [if_pos h,if_pos h]; exact ih _
  ·rw [if_neg h,if_neg h]
theorem ok_atoi (te : TypeId) (hf : P.funcs[f]? = some fn) (hb : fn.body.isNone = false) (hn : (fn.name == "runtime.NumGoroutine") = false)
  (h : ∀ (s : ByteArray) (n : Int),s.size <= 18 -> Lib.atoi s.data.toList = some n -> ∀ w,Calls P f #[.string s] w fun e w' => e = .returned (.tuple #[.int .i64 n,.nilIface]) /\ Below w.heap.size w w')
  (h0 : ∀ w g,GlR g gl -> (∀ b o x,g.im b o = some x -> w.cell? ⟨b,o,none⟩ = some x) -> Calls P f #[.string .empty] w fun e w' => ∃ N,e = .returned (.tuple #[.int .i64 0,.iface te (.pointer (some ⟨N,0,none⟩))]) /\ Below w.heap.size w w') :
  PrimOK Fence.wide P base LC gl f (pAtoi te) := by
 refine primOK_below hf hb hn fun g own mem w args r m' vargs hm ho hgl hpw hp => ?_
 unfold pAtoi at hp
 split at hp
 ·rename_i s
  split at hp
  ·simp only [Option.some.injEq,Prod.mk.injEq] at hp
   obtain ⟨rfl,rfl⟩ := hp
   obtain ⟨x,rfl,hx⟩ := pw1 hpw
   obtain ⟨bs,rfl,hbs⟩ := vr_str_inv hx
   have he : bs = .empty := by
    obtain ⟨⟨l⟩⟩ := bs
    simp at hbs; subst hbs; rfl
   subst he
   refine ⟨rfl,(h0 w g hgl hm.im).mono fun e w' he => ?_⟩
   obtain ⟨N,rfl,hB⟩ := he
   refine ⟨_,rfl,.tup _ _ _ rfl (fun i hi hi' => ?_),hB⟩
   match i,hi with
   | 0,_ => exact .int _ _ _
   | 1,_ => exact .iface _ _ _ _ (.junk _ _ rfl)
  ·rename_i b r'
   split at hp
   ·rename_i hc
    simp only [Option.map_eq_some_iff,Prod.mk.injEq] at hp
    obtain ⟨n,hn',rfl,rfl⟩ := hp
    obtain ⟨x,rfl,hx⟩ := pw1 hpw
    obtain ⟨bs,rfl,hbs⟩ := vr_str_inv hx
    have hsz : bs.size = r'.length + 1 := by
     have := congrArg List.length hbs
     simpa using this
    rw [<- hbs,natOf_eq] at hn'
    have hat : Lib.atoi bs.data.toList = some (n : Int) := by
     cases hl : bs.data.toList with
     | nil => rw [hl] at hbs; cases hbs
     | cons u r2 =>
      rw [hl] at hbs hn'
      simp only [List.map_cons,List.cons.injEq] at hbs
      have hu : 48 <= u.toNat /\ u.toNat <= 57 := by
       have := hc.2
       simp only [isDig,Bool.and_eq_true,decide_eq_true_eq] at this
       rw [hbs.1]; exact this
      have e1 : (u == 45) = false := by
       rw [beq_eq_false_iff_ne]; rintro rfl; exact absurd hu.1 (by decide)
      have e2 : (u == 43) = false := by
       rw [beq_eq_false_iff_ne]; rintro rfl; exact absurd hu.1 (by decide)
      simp only [Lib.atoi,e1,e2,Bool.false_eq_true,if_false,Lib.decNat,List.isEmpty_cons,hn',Option.map_some]
    refine ⟨rfl,(h bs n (by omega) hat w).mono fun e w' he => ?_⟩
    obtain ⟨rfl,hB⟩ := he
    refine ⟨_,rfl,.tup _ _ _ rfl (fun i hi hi' => ?_),hB⟩
    match i,hi with
    | 0,_ => exact .int _ _ _
    | 1,_ => exact .nilif _
   ·cases hp
 ·cases hp
theorem idxN_shift (c : Nat) (l : List Nat) (i : Nat) : idxN c l i = (idxN c l 0).map (· + i) := by
 induction l generalizing i with
 | nil => rfl
 | cons b r ih =>
  simp only [idxN]
  split
  ·simp
  ·rw [ih (i + 1),ih (0 + 1)]
   cases idxN c r 0 <;> simp [Nat.add_comm,Nat.add_left_comm]
theorem idxN_eq (c : UInt8) (l : List UInt8) : (match idxN c.toNat (l.map UInt8.toNat) 0 with
  | some i => (i : Int)
  | none => -1) = Lib.indexByte l c := by
 induction l with
 | nil => rfl
 | cons b r ih =>
  simp only [List.map_cons,idxN,Lib.indexByte]
  by_cases h : b = c
  ·subst h; simp
  ·have h1 : ¬b.toNat = c.toNat := fun e => h (UInt8.toNat_inj.1 e)
   have h2 : (b == c) = false := by simpa using h
   rw [if_neg h1,idxN_shift,h2]
   cases hx : idxN c.toNat (r.map UInt8.toNat) 0 with
   | none => rw [hx] at ih; simp only at ih; simp [<- ih]
   | some k =>
    rw [hx] at ih
    simp only at ih
    have : ((k : Int) == -1) = false := by rw [beq_eq_false_iff_ne]; omega
    simp [<- ih,this]
theorem ok_idx (hf : P.funcs[f]? = some fn) (hb : fn.body.isNone = false) (hn : (fn.name == "runtime.NumGoroutine") = false)
  (h : ∀ (s : ByteArray) (c : Int) (w : World),Calls P f #[.string s,.int .u8 c] w fun e w' => e = .returned (.int .i64 (Lib.indexByte s.data.toList c.toNat.toUInt8)) /\ w' = w) : PrimOK Fence.wide P base LC gl f pIdx := by
 refine primOK_below hf hb hn fun g own mem w args r m' vargs hm ho hgl hpw hp => ?_
 unfold pIdx at hp
 split at hp
 ·rename_i s c
  split at hp
  ·rename_i hc
   simp only [Option.some.injEq,Prod.mk.injEq] at hp
   obtain ⟨rfl,rfl⟩ := hp
   obtain ⟨x,y,rfl,hx,hy⟩ := pw2 hpw
   obtain ⟨bs,rfl,rfl⟩ := vr_str_inv hx
   cases vr_int_inv hy
   refine ⟨rfl,(h bs c w).mono fun e w' he => ?_⟩
   obtain ⟨rfl,rfl⟩ := he
   refine ⟨_,rfl,?_,Below.refl _ _⟩
   have hcn : c.toNat = (c.toNat.toUInt8).toNat := by
    rw [Nat.toUInt8_eq,UInt8.toNat_ofNat']; omega
   have := idxN_eq c.toNat.toUInt8 bs.data.toList
   rw [<- hcn] at this
   rw [this]
   exact .int _ _ _
  ·cases hp
 ·cases hp
theorem strsOf_spec {l : List AV} {ss : List (List Nat)} (h : strsOf l = some ss) : l = ss.map .str := by
 induction l generalizing ss with
 | nil => cases h; rfl
 | cons a l ih =>
  cases a <;> simp only [strsOf] at h <;> first | (cases h; done) | skip
  simp only [Option.map_eq_some_iff] at h
  obtain ⟨t,ht,rfl⟩ := h
  simp [ih ht]
theorem joinN_eq (sep : List UInt8) (l : List (List UInt8)) : joinN (sep.map UInt8.toNat) (l.map (·.map UInt8.toNat)) = (Lib.join l sep).map UInt8.toNat := by
 induction l with
 | nil => rfl
 | cons x l ih =>
  cases l with
  | nil => simp [joinN,Lib.join_one]
  | cons y l =>
   rw [Lib.join_cons]
   rw [Lib.join_cons] at ih
   simp only [List.map_cons,joinN] at ih ⊢
   rw [ih]
   simp [Lib.joinTail]
theorem ok_join (hf : P.funcs[f]? = some fn) (hb : fn.body.isNone = false) (hn : (fn.name == "runtime.NumGoroutine") = false)
  (h0 : ∀ (a : Option Addr) (c : Nat) (sep : ByteArray) (w : World),Calls P f #[.slice a 0 c,.string sep] w fun e w' => e = .returned (.string ⟨#[]⟩) /\ w' = w)
  (h : ∀ (bk o c : Nat) (xs : List ByteArray) (sep : ByteArray) (w : World),(∀ (j : Nat) x,xs[j]? = some x -> w.cell? ⟨bk,o + j,none⟩ = some (.string x)) -> bk < w.heap.size -> xs.length <= 140737488355328 -> xs.length <= c →
   (Lib.join (xs.map (·.data.toList)) sep.data.toList).length <= 140737488355328 →
   Calls P f #[.slice (some ⟨bk,o,none⟩) xs.length c,.string sep] w fun e w' => e = .returned (.string ⟨(Lib.join (xs.map (·.data.toList)) sep.data.toList).toArray⟩) /\ Below w.heap.size w w') : PrimOK Fence.wide P base LC gl f pJoin := by
 refine primOK_below hf hb hn fun g own mem w args r m' vargs hm ho hgl hpw hp => ?_
 unfold pJoin at hp
 split at hp
 ·rename_i c sep
  simp only [Option.some.injEq,Prod.mk.injEq] at hp
  obtain ⟨rfl,rfl⟩ := hp
  obtain ⟨xv,yv,rfl,hx,hy⟩ := pw2 hpw
  obtain ⟨sb,rfl,rfl⟩ := vr_str_inv hy
  obtain ⟨a,cap,rfl⟩ : ∃ a cap,xv = .slice a 0 cap := by
   cases hx with
   | listNil => exact ⟨_,_,rfl⟩
   | listE _ _ a cap => exact ⟨_,_,rfl⟩
   | list _ _ _ b o sz n cap xs hn => simp at hn; subst hn; exact ⟨_,_,rfl⟩
  refine ⟨rfl,(h0 a cap sb w).mono fun e w' he => ?_⟩
  obtain ⟨rfl,rfl⟩ := he
  exact ⟨_,rfl,.str _ _ _ rfl,⟨rfl,rfl,rfl,Nat.le_refl _,fun _ _ => rfl⟩⟩
 ·rename_i c x l sep
  split at hp
  ·rename_i ss hss
   split at hp
   ·rename_i hlen
    simp only [Option.some.injEq,Prod.mk.injEq] at hp
    obtain ⟨rfl,rfl⟩ := hp
    have hsl := strsOf_spec hss
    obtain ⟨xv,yv,rfl,hx,hy⟩ := pw2 hpw
    obtain ⟨sb,rfl,rfl⟩ := vr_str_inv hy
    rw [hsl] at hx
    have hne : ss ≠ [] := by rintro rfl; cases hsl
    obtain ⟨bk,o,cap,vs,rfl,hcap,-,hfr,him⟩ := hx.flat (sz := 1) (fun e he => by
     obtain ⟨s,_,rfl⟩ := List.mem_map.1 he; rfl) (by simpa using hne)
    have hvl : vs.length = ss.length := by have := hfr.1; simpa using this
    have hstr : ∀ j,j < ss.length -> ∃ bs : ByteArray,vs[j]? = some (.string bs) /\ bs.data.toList.map UInt8.toNat = ss.getD j [] := by
     intro j hj
     have e0 : (ss.map AV.str)[j]'(by simpa using hj) = .str ss[j] := by simp
     have hv := hfr.2.2.2 j (by simpa using hj) 0 (by rw [e0]; simp [AV.cells]) (by omega)
     simp only [e0,AV.cells,List.getElem_cons_zero,Nat.mul_one,Nat.add_zero] at hv
     obtain ⟨bs,h1,h2⟩ := vr_str_inv hv
     refine ⟨bs,?_,?_⟩
     ·rw [List.getElem?_eq_getElem (by omega),h1]
     ·rw [h2,List.getD_eq_getElem?_getD,List.getElem?_eq_getElem hj]; rfl
    let xs : List ByteArray := (List.range ss.length).map fun j => match (vs[j]? : Option Value) with
     | some (Value.string b) => b
     | _ => .empty
    have hxl : xs.length = ss.length := by simp [xs]
    have hxj : ∀ j (hj : j < ss.length),∃ bs : ByteArray,xs[j]? = some bs /\ vs[j]? = some (.string bs) /\ bs.data.toList.map UInt8.toNat = ss[j] := by
     intro j hj
     obtain ⟨bs,h1,h2⟩ := hstr j hj
     refine ⟨bs,?_,h1,by rw [h2,List.getD_eq_getElem?_getD,List.getElem?_eq_getElem hj]; rfl⟩
     simp [xs,hj,h1]
    have hmap : (xs.map (·.data.toList)).map (·.map UInt8.toNat) = ss := by
     apply List.ext_getElem (by simp [hxl])
     intro j h1 h2
     obtain ⟨bs,k1,k2,k3⟩ := hxj j h2
     have hjx : j < xs.length := by omega
     rw [List.getElem?_eq_getElem hjx] at k1
     cases k1
     simpa using k3
    have hj := joinN_eq sb.data.toList (xs.map (·.data.toList))
    rw [hmap] at hj
    rw [hj] at hlen ⊢
    simp only [List.length_map] at hlen
    have hle : ss.length <= cap := by simpa using hcap
    have hcell : ∀ (j : Nat) x,xs[j]? = some x -> w.cell? ⟨bk,o + j,none⟩ = some (.string x) := by
     intro j y hy'
     have hjl : j < ss.length := by rw [<- hxl]; exact (List.getElem?_eq_some_iff.1 hy').1
     obtain ⟨bs,k1,k2,-⟩ := hxj j hjl
     rw [k1] at hy'; cases hy'
     exact hm.im _ _ _ (him j _ k2)
    have h0 : 0 < ss.length := List.length_pos_iff.2 hne
    have hbk : bk < w.heap.size := by
     obtain ⟨bs,k1,-,-⟩ := hxj 0 h0
     exact cell_lt (hcell 0 bs k1)
    have hc := h bk o cap xs sb w hcell hbk (by omega) (by omega) hlen.1
    rw [hxl] at hc
    rw [List.length_map]
    refine ⟨rfl,hc.mono fun e w' he => ?_⟩
    obtain ⟨rfl,hB⟩ := he
    exact ⟨_,rfl,vr_bytes rfl,hB⟩
   ·cases hp
  ·cases hp
 ·cases hp
theorem clone_post {g : Gh} {own : OW} {mem : Mem} {w : World} (hm : MemR g own LC mem w) (ho : OwnR base own w) (hgl : GlR g gl) {id : Nat} {es : List (AV × AV)} (hb : mem.blks[id]? = some (.map es)) {b : Nat} (hmb : g.mb id = some b) :
  ∃ a clock,w.heap[b]? = some (.map a clock) /\ CallPost base LC gl g own w (.map mem.blks.length) (mem.push (.map es)) (.map (some w.heap.size)) (w.alloc (.map a clock)) := by
 obtain ⟨b',h1,h2,h3,a,clock,h4,h5,h6,h7⟩ := hm.blk id _ hb
 rw [hmb] at h1; cases h1
 refine ⟨a,clock,h4,?_⟩
 have hm' := hm.ownM
 have ho' := ho.ownM
 have him : ∀ o,g.im w.heap.size o = none := im_new hm
 let g' : Gh := { g with mb := fun id => if id = mem.blks.length then some w.heap.size else g.mb id }
 have hsub : g.sub g' := ⟨fun _ _ _ h => h,fun id b hb => by
  have := hm.dom id b hb
  simp only [g']; rw [if_neg (by omega)]; exact hb,fun _ _ _ h => h⟩
 have hst := Steps'.alloc g (ownM own) w (.map a clock) (some (.m mem.blks.length))
 refine ⟨g',_,⟨hsub,hst.size,hst.os,hst.tape,hst.output,hst.keep,hst.unown,hst.im⟩,?_,.map _ _ _ (by simp [g']),ho'.alloc _ _,fun b d hb => ?_,hgl.mono hsub⟩
 ·refine hm'.push (hm'.alloc ho' _ _) _ _ (fun id b hb => ?_) (fun id hid => ?_) ?_
  ·split at hb
   ·exact .inr (by assumption)
   ·exact .inl hb
  ·exact if_neg (by omega)
  ·exact ⟨w.heap.size,by simp,by simp [ownNew],him,a,clock,heap_alloc_at w _,h5,fun i hi hi' => ⟨(h6 i hi hi').1.sub hsub,(h6 i hi hi').2.sub hsub⟩,h7⟩
 ·unfold ownNew at hb
  split at hb
  ·cases hb
  ·obtain ⟨_,i,h⟩ := ownM_some hb; cases h
theorem ok_clone (hf : P.funcs[f]? = some fn) (hb : fn.body.isNone = false) (hn : (fn.name == "runtime.NumGoroutine") = false)
  (h : ∀ (b : Nat) (es : Array MapEntry) (clock : Nat) (w : World),w.heap[b]? = some (.map es clock) →
   Calls P f #[.map (some b)] w fun e w' => e = .returned (.map (some w.heap.size)) /\ w' = w.alloc (.map es clock)) : PrimOK Fence.wide P base LC gl f pClone := by
 intro n g own mem w args r m' vargs hm ho hgl hpw hp
 unfold pClone at hp
 split at hp
 ·rename_i id
  split at hp
  ·rename_i es hblk
   simp only [Option.some.injEq,Prod.mk.injEq] at hp
   obtain ⟨rfl,rfl⟩ := hp
   obtain ⟨x,rfl,hx⟩ := pw1 hpw
   cases hx with
   | map _ _ b hmb =>
    obtain ⟨a,clock,h1,h2⟩ := clone_post hm ho hgl hblk hmb
    refine calledR_of_calls hf hb hn (callsIn_wide.2 ((h b a clock w h1).mono fun e w' he => ?_))
    obtain ⟨rfl,rfl⟩ := he
    exact ⟨_,rfl,h2⟩
  ·cases hp
 ·cases hp
theorem pClone_K : ∀ args m r m',pClone args m = some (r,m') -> KM m m' := by
 intro args m r m' hp
 unfold pClone at hp
 split at hp
 ·split at hp
  ·simp only [Option.some.injEq,Prod.mk.injEq] at hp
   obtain ⟨rfl,rfl⟩ := hp
   exact KM.push _ _
  ·cases hp
 ·cases hp
def KeptBld (w w' : World) (b : Nat) (r : Option Nat) : Prop :=
 w.heap.size <= w'.heap.size /\ w'.os = w.os /\ w'.tape = w.tape /\ w'.output = w.output /\ ∀ k,k < w.heap.size -> k ≠ b -> r ≠ some k -> w'.heap[k]? = w.heap[k]?
theorem ok_ws {T e : TypeId} (hf : P.funcs[f]? = some fn) (hb : fn.body.isNone = false) (hn : (fn.name == "runtime.NumGoroutine") = false)
  (h : ∀ (b : Nat) (s : ByteArray) (p v : Value) (r : Option Nat) (q : List Nat) (w : World),w.heap[b]? = some (.cells #[p,v] T (0,0)) -> (p = .pointer none \/ p = .pointer (some ⟨b,0,none⟩)) -> RowV w e q v r -> r ≠ some b →
   q.length + s.size <= 140737488355328 →
   Calls P f #[.pointer (some ⟨b,0,none⟩),.string s] w fun en w' => en = .returned (.tuple #[.int .i64 s.size,.nilIface]) /\ KeptBld w w' b r /\ ∃ p' v' r',w'.heap[b]? = some (.cells #[p',v'] T (0,0)) ∧
    (p' = .pointer none \/ p' = .pointer (some ⟨b,0,none⟩)) /\ RowV w' e (q ++ s.data.toList.map UInt8.toNat) v' r' /\ (r' = r \/ ∃ k,r' = some k /\ w.heap.size <= k)) :
  PrimOK Fence.wide P base LC gl f (pWS T e) := by
 intro n g own mem w args r m' vargs hm ho hgl hpw hp
 unfold pWS at hp
 split at hp
 ·rename_i id s
  split at hp
  ·rename_i T' e' t hblk
   split at hp
   ·rename_i hc
    obtain ⟨rfl,rfl,hlen⟩ := hc
    simp only [Option.some.injEq,Prod.mk.injEq] at hp
    obtain ⟨rfl,rfl⟩ := hp
    obtain ⟨x,y,rfl,hx,hy⟩ := pw2 hpw
    obtain ⟨bs,rfl,rfl⟩ := vr_str_inv hy
    have hbl : (bs.data.toList.map UInt8.toNat).length = bs.size := by rw [List.length_map,Array.length_toList]; rfl
    cases hx with
    | gptr _ _ _ b hmb =>
     obtain ⟨b',p,v,rw',hbld⟩ := bld_get (hm.blk id _ hblk)
     have := hbld.mb
     rw [hmb] at this; cases this
     have hrb : rw' ≠ some b := fun he => (hbld.rown b he).2.1 rfl
     refine calledR_of_calls hf hb hn (callsIn_wide.2 ((h b bs p v rw' t w hbld.heap hbld.ptr hbld.row hrb (by omega)).mono fun en w' he => ?_))
     obtain ⟨rfl,⟨k1,k2,k3,k4,k5⟩,p',v',r',k6,k7,k8,k9⟩ := he
     refine ⟨_,rfl,bld_post hm ho hgl (List.getElem?_eq_some_iff.1 hblk).1 hbld k1 k2 k3 k4 k5 k6 k7 (fun z hz => ?_) k8 k9 (.tup _ _ _ rfl fun i hi hi' => ?_)⟩
     ·rcases List.mem_append.1 hz with hz | hz
      ·exact hbld.bytes z hz
      ·obtain ⟨u,_,rfl⟩ := List.mem_map.1 hz; exact u.toNat_lt
     ·rw [hbl] at hi
      match i,hi with
      | 0,_ => simp only [hbl]; exact .int _ _ _
      | 1,_ => exact .nilif _
   ·cases hp
  ·cases hp
 ·cases hp
theorem ok_str {T e : TypeId} (hf : P.funcs[f]? = some fn) (hb : fn.body.isNone = false) (hn : (fn.name == "runtime.NumGoroutine") = false)
  (h : ∀ (b : Nat) (p v : Value) (r : Option Nat) (q : List Nat) (w : World),w.heap[b]? = some (.cells #[p,v] T (0,0)) -> RowV w e q v r -> r ≠ some b -> (∀ x ∈ q,x < 256) →
   Calls P f #[.pointer (some ⟨b,0,none⟩)] w fun en w' => ∃ bs : ByteArray,en = .returned (.string bs) /\ bs.data.toList.map UInt8.toNat = q ∧
    w.heap.size <= w'.heap.size /\ w'.os = w.os /\ w'.tape = w.tape /\ w'.output = w.output /\ ∀ k,k < w.heap.size -> r ≠ some k -> w'.heap[k]? = w.heap[k]?) :
  PrimOK Fence.wide P base LC gl f (pStr T e) := by
 intro n g own mem w args r m' vargs hm ho hgl hpw hp
 unfold pStr at hp
 split at hp
 ·rename_i id
  split at hp
  ·rename_i T' e' t hblk
   split at hp
   ·rename_i hc
    obtain ⟨rfl,rfl⟩ := hc
    simp only [Option.some.injEq,Prod.mk.injEq] at hp
    obtain ⟨rfl,rfl⟩ := hp
    obtain ⟨x,rfl,hx⟩ := pw1 hpw
    cases hx with
    | gptr _ _ _ b hmb =>
     obtain ⟨b',p,v,rw',hbld⟩ := bld_get (hm.blk id _ hblk)
     have := hbld.mb
     rw [hmb] at this; cases this
     have hrb : rw' ≠ some b := fun he => (hbld.rown b he).2.1 rfl
     refine calledR_of_calls hf hb hn (callsIn_wide.2 ((h b p v rw' t w hbld.heap hbld.row hrb hbld.bytes).mono fun en w' he => ?_))
     obtain ⟨bs,rfl,hbs,k1,k2,k3,k4,k5⟩ := he
     exact ⟨_,rfl,bld_dead hm ho hgl hbld k1 k2 k3 k4 k5 (.str _ _ _ hbs)⟩
   ·cases hp
  ·cases hp
 ·cases hp
theorem pWS_K (T e : TypeId) : ∀ args m r m',pWS T e args m = some (r,m') -> KM m m' := by
 intro args m r m' hp
 unfold pWS at hp
 split at hp
 ·split at hp
  ·split at hp
   ·simp only [Option.some.injEq,Prod.mk.injEq] at hp
    obtain ⟨rfl,rfl⟩ := hp
    exact KM.set (fun _ h => by cases h) _
   ·cases hp
  ·cases hp
 ·cases hp
theorem pStr_K (T e : TypeId) : ∀ args m r m',pStr T e args m = some (r,m') -> KM m m' := by
 intro args m r m' hp
 unfold pStr at hp
 split at hp
 ·split at hp
  ·split at hp
   ·simp only [Option.some.injEq,Prod.mk.injEq] at hp
    obtain ⟨rfl,rfl⟩ := hp
    exact KM.set (fun _ h => by cases h) _
   ·cases hp
  ·cases hp
 ·cases hp
theorem ok_const {callv : CallV} {v : AV} (hcall : CallOK Fence.wide P base LC gl callv) (hcv : ∀ mem,callv (.fn (.func f) [] []) [] mem = some (v,mem)) : PrimOK Fence.wide P base LC gl f (pConst v) := by
 intro n g own mem w args r m' vargs hm ho hgl hpw hp
 unfold pConst at hp
 split at hp
 ·simp only [Option.some.injEq,Prod.mk.injEq] at hp
  obtain ⟨rfl,rfl⟩ := hp
  have hv : vargs = #[] := by
   have h0 := hpw.1
   simp at h0
   exact Array.size_eq_zero_iff.1 (by omega)
  subst hv
  have hfn : VR g noLB (.fn (.func f) [] []) (.func (.func f) #[] #[]) := .fn _ _ _ _ _ _ _ rfl rfl rfl (fun i hi => by simp at hi) (fun i hi => by simp at hi)
  have := hcall n g noLB own mem w _ _ _ _ _ #[] hm ho hgl hfn hpw (hcv mem)
  have hrun : (do let d <- Deferred.ofValue (.func (.func f) #[] #[]) #[]; invoke d.target d.args : Sem Next).run P w = (callFunc f #[]).run P w := by
   simp only [Deferred.ofValue,Sem.run_bind,Sem.run_pure,Result.andThen_ok,invoke]
   rfl
  unfold Called at this
  rw [hrun] at this
  exact this
 ·cases hp
end
end Go.Abs
