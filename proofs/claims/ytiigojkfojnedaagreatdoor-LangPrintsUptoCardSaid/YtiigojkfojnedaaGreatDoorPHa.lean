/- A text of this proof. -/
import Derived.Test.YtiigojkfojnedaaGreatDoorPVa
import Derived.Test.YtiigojkfojnedaaGreatDoorPLa
import Derived.Test.YtiigojkfojnedaaGreatDoorPVc
set_option linter.unusedVariables false
set_option linter.unusedSimpArgs false
namespace Go.Abs
structure Plc where
 name : List Nat
 c : Cap
 ix : List Idx
inductive Stp
 | mk (k g : Int) (name : List Nat) (cp : Cap) (pl : List Plc) (size to : Idx) (cb : Cap) (body : List Stp) (ce : Cap) (els : List Stp)
structure Par where
 name : List Nat
 size : Int
structure Prc where
 name : List Nat
 cp : Cap
 pars : List Par
 cb : Cap
 body : List Stp
structure Prg where
 c : Cap
 procs : List Prc
def Idx.four : Idx -> List AV
 | .mk k n s c l => [.int .i64 k,.int .i64 n,.str s,.list c (Idx.avs l)]
theorem Idx.av_four (x : Idx) : x.av = .agg x.four := by cases x; rfl
def Plc.av (p : Plc) : AV := .agg [.str p.name,.list p.c (p.ix.map Idx.av)]
mutual
def Stp.cells : Stp -> List AV
 | .mk k g nm cp pl size to cb body ce els => [.int .i64 k,.int .i64 g,.str nm,.list cp (pl.map Plc.av)] ++ size.four ++ to.four ++ [.list cb (Stp.avs body),.list ce (Stp.avs els)]
def Stp.avs : List Stp -> List AV
 | [] => []
 | s :: l => .agg s.cells :: Stp.avs l
end
def Stp.av (s : Stp) : AV := .agg s.cells
theorem Stp.avs_eq (l : List Stp) : Stp.avs l = l.map Stp.av := by
 induction l with
 | nil => rfl
 | cons a l ih => simp [Stp.avs,ih,Stp.av]
def Par.av (p : Par) : AV := .agg [.str p.name,.int .i64 p.size]
def Prc.av (p : Prc) : AV := .agg [.str p.name,.list p.cp (p.pars.map Par.av),.list p.cb (Stp.avs p.body)]
def Prg.cells (p : Prg) : List AV := [.list p.c (p.procs.map Prc.av)]
def Prg.av (p : Prg) : AV := .agg p.cells
theorem Stp.ind' {Q : Stp -> Prop} (h : ∀ k g nm cp pl size to cb body ce els,(∀ y ∈ body,Q y) -> (∀ y ∈ els,Q y) -> Q (.mk k g nm cp pl size to cb body ce els)) (x : Stp) : Q x :=
 Stp.rec (motive_1 := Q) (motive_2 := fun l => ∀ y ∈ l,Q y) (fun k g nm cp pl size to cb body ce els h1 h2 => h k g nm cp pl size to cb body ce els h1 h2) (fun y hy => (by cases hy))
  (fun x l hx hl y hy => (by
   rcases List.mem_cons.1 hy with rfl | hy
   ·exact hx
   ·exact hl y hy)) x
def Stp.body : Stp -> List Stp
 | .mk _ _ _ _ _ _ _ _ b _ _ => b
def Stp.els : Stp -> List Stp
 | .mk _ _ _ _ _ _ _ _ _ _ e => e
theorem Stp.lists {P : List Stp -> Prop} (h : ∀ l : List Stp,(∀ y ∈ l,P y.body /\ P y.els) -> P l) (l : List Stp) : P l :=
 h l fun y _ => Stp.ind' (Q := fun y => P y.body /\ P y.els) (fun _ _ _ _ _ _ _ _ body _ els h1 h2 => ⟨h body h1,h els h2⟩) y
def okStr (s : List Nat) : Prop := ∀ b ∈ s,b < 256
mutual
def Idx.Str : Idx -> Prop
 | .mk _ _ s _ l => okStr s /\ Idx.Strs l
def Idx.Strs : List Idx -> Prop
 | [] => True
 | x :: l => x.Str /\ Idx.Strs l
end
def Idx.Ok2 (x : Idx) : Prop := x.Ok /\ x.Str
def Plc.Ok (p : Plc) : Prop := okStr p.name /\ okCap p.c /\ ∀ x ∈ p.ix,x.Ok2
mutual
def Stp.Ok : Stp -> Prop
 | .mk _ _ nm cp pl size to cb body ce els => okStr nm /\ okCap cp /\ (∀ p ∈ pl,p.Ok) /\ size.Ok2 /\ to.Ok2 /\ okCap cb /\ Stp.Oks body /\ okCap ce /\ Stp.Oks els
def Stp.Oks : List Stp -> Prop
 | [] => True
 | s :: l => s.Ok /\ Stp.Oks l
end
theorem Stp.oks_mem {l : List Stp} (h : Stp.Oks l) : ∀ x ∈ l,x.Ok := by
 induction l with
 | nil => intro x hx; cases hx
 | cons a l ih =>
  intro x hx
  rcases List.mem_cons.1 hx with rfl | hx
  ·exact h.1
  ·exact ih h.2 x hx
def Prc.Ok (p : Prc) : Prop := okStr p.name /\ okCap p.cp /\ (∀ x ∈ p.pars,okStr x.name) /\ okCap p.cb /\ Stp.Oks p.body /\ (p.cp = .nil -> p.pars = [])
def Prg.Ok (p : Prg) : Prop := okCap p.c /\ ∀ x ∈ p.procs,x.Ok
theorem Idx.exp_four (n : Nat) (k : Bool) (x : Idx) (h : x.Ok) : exps n k x.four = x.four := by
 have := Idx.exp_av n k x h
 rw [Idx.av_four] at this
 simpa only [exp,AV.agg.injEq] using this
theorem Idx.nol_four (x : Idx) : nols x.four = x.four := by
 have := Idx.nol_av x
 rw [Idx.av_four] at this
 simpa only [nol,AV.agg.injEq] using this
theorem Plc.exp_av (n : Nat) (k : Bool) (p : Plc) (h : p.Ok) : exp n k p.av = p.av := by
 have : exps n k (p.ix.map Idx.av) = p.ix.map Idx.av := by
  rw [exps_eq,List.map_map]
  exact List.map_congr_left fun x hx => Idx.exp_av n k x (h.2.2 x hx).1
 simp only [Plc.av,exp,exps,exp_cap h.2.1,this]
theorem Plc.nol_av (p : Plc) : nol p.av = p.av := by
 have : nols (p.ix.map Idx.av) = p.ix.map Idx.av := by
  rw [nols_eq,List.map_map]
  exact List.map_congr_left fun x _ => Idx.nol_av x
 simp only [Plc.av,nol,nols,this]
theorem exps_append (n : Nat) (k : Bool) (a b : List AV) : exps n k (a ++ b) = exps n k a ++ exps n k b := by simp [exps_eq]
theorem nols_append (a b : List AV) : nols (a ++ b) = nols a ++ nols b := by simp [nols_eq]
theorem Stp.exp_cells (n : Nat) (k : Bool) (x : Stp) : x.Ok -> exps n k x.cells = x.cells := by
 refine Stp.ind' (Q := fun x => x.Ok -> exps n k x.cells = x.cells) (fun kk g nm cp pl size to cb body ce els h1 h2 h => ?_) x
 simp only [Stp.Ok] at h
 obtain ⟨-,k1,k2,k3,k4,k5,k6,k7,k8⟩ := h
 have e1 : exps n k (pl.map Plc.av) = pl.map Plc.av := by
  rw [exps_eq,List.map_map]
  exact List.map_congr_left fun x hx => Plc.exp_av n k x (k2 x hx)
 have go : ∀ l : List Stp,Stp.Oks l -> (∀ y ∈ l,y.Ok -> exps n k y.cells = y.cells) -> exps n k (Stp.avs l) = Stp.avs l := by
  intro l hl hy
  rw [exps_eq,Stp.avs_eq,List.map_map]
  refine List.map_congr_left fun y hm => ?_
  simp only [Function.comp,Stp.av,exp,hy y hm (Stp.oks_mem hl y hm)]
 simp only [Stp.cells,exps_append,exps,exp,exp_cap k1,exp_cap k5,exp_cap k7,e1,Idx.exp_four _ _ _ k3.1,Idx.exp_four _ _ _ k4.1,go body k6 h1,go els k8 h2]
theorem Stp.exp_av (n : Nat) (k : Bool) (x : Stp) (h : x.Ok) : exp n k x.av = x.av := by simp only [Stp.av,exp,Stp.exp_cells n k x h]
theorem Stp.exp_avs (n : Nat) (k : Bool) (l : List Stp) (h : Stp.Oks l) : exps n k (Stp.avs l) = Stp.avs l := by
 rw [exps_eq,Stp.avs_eq,List.map_map]
 exact List.map_congr_left fun x hx => Stp.exp_av n k x (Stp.oks_mem h x hx)
theorem Stp.nol_cells (x : Stp) : nols x.cells = x.cells := by
 refine Stp.ind' (Q := fun x => nols x.cells = x.cells) (fun kk g nm cp pl size to cb body ce els h1 h2 => ?_) x
 have e1 : nols (pl.map Plc.av) = pl.map Plc.av := by
  rw [nols_eq,List.map_map]
  exact List.map_congr_left fun x hx => Plc.nol_av x
 have go : ∀ l : List Stp,(∀ y ∈ l,nols y.cells = y.cells) -> nols (Stp.avs l) = Stp.avs l := by
  intro l hy
  rw [nols_eq,Stp.avs_eq,List.map_map]
  refine List.map_congr_left fun y hm => ?_
  simp only [Function.comp,Stp.av,nol,hy y hm]
 simp only [Stp.cells,nols_append,nols,nol,e1,Idx.nol_four,go body h1,go els h2]
theorem Prc.exp_av (n : Nat) (k : Bool) (p : Prc) (h : p.Ok) : exp n k p.av = p.av := by
 obtain ⟨-,k1,k2,k3,k4,-⟩ := h
 have e1 : exps n k (p.pars.map Par.av) = p.pars.map Par.av := by
  rw [exps_eq,List.map_map]
  exact List.map_congr_left fun x _ => rfl
 simp only [Prc.av,exp,exps,exp_cap k1,exp_cap k3,e1,Stp.exp_avs _ _ _ k4]
theorem Prg.exp_cells (n : Nat) (k : Bool) (p : Prg) (h : p.Ok) : exps n k p.cells = p.cells := by
 have e1 : exps n k (p.procs.map Prc.av) = p.procs.map Prc.av := by
  rw [exps_eq,List.map_map]
  exact List.map_congr_left fun x hx => Prc.exp_av n k x (h.2 x hx)
 simp only [Prg.cells,exps,exp,exp_cap h.1,e1]
theorem Prg.exp_av (n : Nat) (k : Bool) (p : Prg) (h : p.Ok) : exp n k p.av = p.av := by simp only [Prg.av,exp,Prg.exp_cells n k p h]
theorem Idx.four_len (x : Idx) : x.four.length = 4 := by cases x; rfl
theorem Stp.cells_len (x : Stp) : x.cells.length = 14 := by
 cases x; simp [Stp.cells,Idx.four_len]
def gateW : List (List Nat) := [[120],[121],[122],[104],[115],[115,100],[116],[116,100],[99,120],[99,122],[115,119,97,112],[99,99,120]]
def keyW : List (List Nat) := [[112,114,111,99],[116,97,107,101],[100,114,111,112],[98,111,114,114,111,119],[109,101,97,115,117,114,101],[114,101,115,101,116],[105,102],[101,108,115,101],[102,111,114],[117,110,100,111],[119,105,116,104,105,110],[97,112,112,108,121]]
def lettersB (s : List Nat) : Bool := s.all fun b => decide (97 <= b) && decide (b <= 122)
def namedB (s : List Nat) : Bool := decide (0 < s.length) && decide (s.length <= 8) && lettersB s && !gateW.contains s && !keyW.contains s
mutual
def Idx.part (may : List Nat -> Bool) (no : Int) : Idx -> Int
 | .mk k n s _ l => if shapeE k n l.length ≠ 0 then shapeE k n l.length else if k = 2 /\ may s = false then no else Idx.parts may no l
def Idx.parts (may : List Nat -> Bool) (no : Int) : List Idx -> Int
 | [] => 0
 | x :: l => if x.part may no ≠ 0 then x.part may no else Idx.parts may no l
end
def Idx.err (may : List Nat -> Bool) (no : Int) (x : Idx) : Int := if 9 < x.cnt then 2 else x.part may no
inductive What
 | none
 | reg (mine : Bool)
 | bit
 | turn
 deriving DecidableEq
abbrev Look := List Nat -> What
def What.isReg : What -> Bool
 | .reg _ => true
 | _ => false
def mayOf (L : Look) (s : List Nat) : Bool := decide (L s = .turn)
def placeE (L : Look) (p : Plc) : Int := if (L p.name).isReg = false then 1 else if 2 < p.ix.length then 2 else first (Idx.err (mayOf L) 1) p.ix
def newE (L : Look) (s : List Nat) : Int := if namedB s = false then 4 else if L s ≠ .none then 5 else 0
def arityN (g : Int) : Nat := if g <= 8 then 1 else if g <= 11 then 2 else 3
def procN (ps : List Prc) (s : List Nat) : Option Nat := ps.findIdx? fun p => p.name == s
def stepE (ps : List Prc) (own : Nat) (L : Look) : Stp -> Int
 | .mk k g nm _ pl size to _ _ _ _ =>
  if k = 1 then (if g < 1 \/ 12 < g then 3 else if pl.length ≠ arityN g then 2 else first (placeE L) pl)
  else if k = 2 \/ k = 4 then (if newE L nm ≠ 0 then newE L nm else size.err (mayOf L) 1)
  else if k = 8 then (if newE L nm ≠ 0 then newE L nm else if size.err (mayOf L) 1 ≠ 0 then size.err (mayOf L) 1 else to.err (mayOf L) 1)
  else if k = 3 then (match L nm with
   | .reg true => 0
   | .reg false => 7
   | _ => 1)
  else if k = 5 then (match pl with
   | [p] => if placeE L p ≠ 0 then placeE L p else if L nm = .bit then 0 else newE L nm
   | _ => 2)
  else if k = 6 then (match pl with
   | [p] => placeE L p
   | _ => 2)
  else if k = 7 then (if L nm = .bit then 0 else 1)
  else if k = 9 then (match procN ps nm with
   | none => 1
   | some n => if own <= n then 15 else match ps[n]? with
    | some q => if pl.length ≠ q.pars.length then 2 else first (placeE L) pl
    | none => 1)
  else if k = 10 \/ k = 11 then 0 else 3
def hasBody (k : Int) : Bool := decide (k = 4 \/ k = 8 \/ k = 10 \/ k = 7 \/ k = 11)
def hasElse (k : Int) : Bool := decide (k = 7 \/ k = 11)
mutual
def Stp.cnt : Stp -> Nat
 | .mk k _ _ _ _ _ _ _ body _ els => 1 + (if hasBody k then Stp.cnts body else 0) + (if hasElse k then Stp.cnts els else 0)
def Stp.cnts : List Stp -> Nat
 | [] => 0
 | s :: l => s.cnt + Stp.cnts l
end
mutual
def Stp.deep : Stp -> Nat
 | .mk k _ _ _ _ _ _ _ body _ els => 1 + max (if hasBody k then Stp.deeps body else 0) (if hasElse k then Stp.deeps els else 0)
def Stp.deeps : List Stp -> Nat
 | [] => 0
 | s :: l => max s.deep (Stp.deeps l)
end
def Plc.wt (p : Plc) : Nat := 1 + Idx.cnts p.ix
def plcsW : List Plc -> Nat
 | [] => 0
 | p :: l => p.wt + plcsW l
mutual
def Stp.wt : Stp -> Nat
 | .mk _ _ _ _ pl size to _ body _ els => 1 + plcsW pl + size.cnt + to.cnt + Stp.wts body + Stp.wts els
def Stp.wts : List Stp -> Nat
 | [] => 0
 | s :: l => s.wt + Stp.wts l
end
def Prc.wt (p : Prc) : Nat := 1 + p.pars.length + Stp.wts p.body
def prcsW : List Prc -> Nat
 | [] => 0
 | p :: l => p.wt + prcsW l
theorem Plc.wt_mem {l : List Plc} {x : Plc} (h : x ∈ l) : x.wt <= plcsW l := by
 induction l with
 | nil => cases h
 | cons a l ih =>
  simp only [plcsW]
  rcases List.mem_cons.1 h with rfl | h
  ·omega
  ·have := ih h; omega
theorem plcsW_len (l : List Plc) : l.length <= plcsW l := by
 induction l with
 | nil => simp
 | cons a l ih => simp only [List.length_cons,plcsW,Plc.wt]; omega
theorem Stp.wt_mem {l : List Stp} {x : Stp} (h : x ∈ l) : x.wt <= Stp.wts l := by
 induction l with
 | nil => cases h
 | cons a l ih =>
  simp only [Stp.wts]
  rcases List.mem_cons.1 h with rfl | h
  ·omega
  ·have := ih h; omega
theorem Stp.wt_ge (x : Stp) : 3 + Stp.wts x.body + Stp.wts x.els <= x.wt := by
 obtain ⟨k,g,nm,cp,pl,size,to,cb,body,ce,els⟩ := x
 have h1 := Idx.cnt_pos size
 have h2 := Idx.cnt_pos to
 simp only [Stp.wt,Stp.body,Stp.els]; omega
theorem Stp.wts_len (l : List Stp) : l.length <= Stp.wts l := by
 induction l with
 | nil => simp
 | cons a l ih => have := Stp.wt_ge a; simp only [List.length_cons,Stp.wts]; omega
theorem prcsW_len (l : List Prc) : l.length <= prcsW l := by
 induction l with
 | nil => simp
 | cons a l ih => simp only [List.length_cons,prcsW,Prc.wt]; omega
theorem Prc.wt_mem {l : List Prc} {x : Prc} (h : x ∈ l) : x.wt <= prcsW l := by
 induction l with
 | nil => cases h
 | cons a l ih =>
  simp only [prcsW]
  rcases List.mem_cons.1 h with rfl | h
  ·omega
  ·have := ih h; omega
def Look.put (L : Look) (s : List Nat) (w : What) : Look := fun t => if t = s then w else L t
def Look.inner (L : Look) : Look := fun t => match L t with
 | .reg _ => .reg false
 | w => w
def inside (L : Look) (k : Int) (nm : List Nat) : Look := if k = 4 then L.inner.put nm (.reg false) else if k = 8 then L.inner.put nm .turn else L.inner
def after (L : Look) (k : Int) (nm : List Nat) : Look := if k = 2 then L.put nm (.reg true) else if k = 3 then L.put nm .none else if k = 5 then L.put nm .bit else L
def Stp.kind : Stp -> Int
 | .mk k _ _ _ _ _ _ _ _ _ _ => k
def Stp.name : Stp -> List Nat
 | .mk _ _ nm _ _ _ _ _ _ _ _ => nm
mutual
def blkE (ps : List Prc) (own : Nat) : List Stp -> Look -> Int
 | [],_ => 0
 | s :: l,L => if stepE ps own L s ≠ 0 then stepE ps own L s else if inE ps own s L ≠ 0 then inE ps own s L else blkE ps own l (after L s.kind s.name)
def inE (ps : List Prc) (own : Nat) : Stp -> Look -> Int
 | .mk k _ nm _ _ _ _ _ body _ els,L => if hasBody k then (if blkE ps own body (inside L k nm) ≠ 0 then blkE ps own body (inside L k nm) else if hasElse k then blkE ps own els (inside L k nm) else 0) else 0
end
def parsE : List Par -> Look -> Int
 | [],_ => 0
 | x :: l,L => if namedB x.name = false then 4 else if x.size < 1 \/ 12 < x.size then 3 else if L x.name ≠ .none then 5 else parsE l (L.put x.name (.reg false))
def parsL : List Par -> Look -> Look
 | [],L => L
 | x :: l,L => parsL l (L.put x.name (.reg false))
def noL : Look := fun _ => .none
def procE (ps : List Prc) (own : Nat) (x : Prc) : Int :=
 if namedB x.name = false then 4
 else if (ps.take own).any (fun p => p.name == x.name) then 5
 else if 4 < x.pars.length then 2
 else if parsE x.pars noL ≠ 0 then parsE x.pars noL
 else if 120 < Stp.cnts x.body then 2
 else if 6 < Stp.deeps x.body then 11
 else blkE ps own x.body (parsL x.pars noL)
def progsE (ps : List Prc) : Nat -> List Prc -> Int
 | _,[] => 0
 | k,x :: l => if procE ps k x ≠ 0 then procE ps k x else progsE ps (k + 1) l
def checkE (ps : List Prc) : Int := if ps.length < 1 \/ 12 < ps.length then 2 else progsE ps 0 ps
end Go.Abs
set_option maxRecDepth 100000
set_option maxHeartbeats 4000000
namespace Go.Abs.Tz
open Go.Abs
variable {u : Nat}
def allW : List (List Nat) := keyW ++ gateW
def wordN (n : Nat) : List Nat := allW.getD n []
theorem wordN_ne : ∀ i,i < 24 -> wordN i ≠ [] := by decide
def hasW (s : List Nat) : Bool := allW.contains s
theorem wordN_mem {i : Nat} {s : List Nat} (h : i < 24) (he : wordN i = s) : hasW s = true := by
 unfold hasW
 have hl : i < allW.length := h
 rw [List.contains_iff_mem,<- he,wordN,List.getD_eq_getElem?_getD,List.getElem?_eq_getElem hl]
 exact List.getElem_mem hl
theorem wordN_not {s : List Nat} (h : ∀ j,j < 24 -> wordN j ≠ s) : hasW s = false := by
 unfold hasW
 cases hc : allW.contains s with
 | false => rfl
 | true =>
  rw [List.contains_iff_mem] at hc
  obtain ⟨j,hj,he⟩ := List.getElem_of_mem hc
  exact absurd (by rw [wordN,List.getD_eq_getElem?_getD,List.getElem?_eq_getElem hj]; exact he) (h j hj)
theorem f157 (n : Nat) (h : 1 <= n) (h' : n <= 12) (m : Mem) : cvl (C u) (.fn (.func 157) [] []) [.int .i64 n] m = some (.str (gateW.getD (n - 1) []),m) := by
 refine call_runs (g := g157) (by rfl) (by rfl) (by rfl) ?_
 match n,h,h' with
 | 1,_,_ => simp [Runs,g157,c157,exec,aops,astep,wantedA,aop,evO,setO,setU,getE,getE_setE,lget,lget_lset,aBin,aInt,aUn,AV.cells,newVar,padd,rd,wr,asElem,single,splice,aStr,adraw,ascan,exp,gets,RV.get,tupled,frz,frzW,gateW]
 | 2,_,_ => simp [Runs,g157,c157,exec,aops,astep,wantedA,aop,evO,setO,setU,getE,getE_setE,lget,lget_lset,aBin,aInt,aUn,AV.cells,newVar,padd,rd,wr,asElem,single,splice,aStr,adraw,ascan,exp,gets,RV.get,tupled,frz,frzW,gateW]
 | 3,_,_ => simp [Runs,g157,c157,exec,aops,astep,wantedA,aop,evO,setO,setU,getE,getE_setE,lget,lget_lset,aBin,aInt,aUn,AV.cells,newVar,padd,rd,wr,asElem,single,splice,aStr,adraw,ascan,exp,gets,RV.get,tupled,frz,frzW,gateW]
 | 4,_,_ => simp [Runs,g157,c157,exec,aops,astep,wantedA,aop,evO,setO,setU,getE,getE_setE,lget,lget_lset,aBin,aInt,aUn,AV.cells,newVar,padd,rd,wr,asElem,single,splice,aStr,adraw,ascan,exp,gets,RV.get,tupled,frz,frzW,gateW]
 | 5,_,_ => simp [Runs,g157,c157,exec,aops,astep,wantedA,aop,evO,setO,setU,getE,getE_setE,lget,lget_lset,aBin,aInt,aUn,AV.cells,newVar,padd,rd,wr,asElem,single,splice,aStr,adraw,ascan,exp,gets,RV.get,tupled,frz,frzW,gateW]
 | 6,_,_ => simp [Runs,g157,c157,exec,aops,astep,wantedA,aop,evO,setO,setU,getE,getE_setE,lget,lget_lset,aBin,aInt,aUn,AV.cells,newVar,padd,rd,wr,asElem,single,splice,aStr,adraw,ascan,exp,gets,RV.get,tupled,frz,frzW,gateW]
 | 7,_,_ => simp [Runs,g157,c157,exec,aops,astep,wantedA,aop,evO,setO,setU,getE,getE_setE,lget,lget_lset,aBin,aInt,aUn,AV.cells,newVar,padd,rd,wr,asElem,single,splice,aStr,adraw,ascan,exp,gets,RV.get,tupled,frz,frzW,gateW]
 | 8,_,_ => simp [Runs,g157,c157,exec,aops,astep,wantedA,aop,evO,setO,setU,getE,getE_setE,lget,lget_lset,aBin,aInt,aUn,AV.cells,newVar,padd,rd,wr,asElem,single,splice,aStr,adraw,ascan,exp,gets,RV.get,tupled,frz,frzW,gateW]
 | 9,_,_ => simp [Runs,g157,c157,exec,aops,astep,wantedA,aop,evO,setO,setU,getE,getE_setE,lget,lget_lset,aBin,aInt,aUn,AV.cells,newVar,padd,rd,wr,asElem,single,splice,aStr,adraw,ascan,exp,gets,RV.get,tupled,frz,frzW,gateW]
 | 10,_,_ => simp [Runs,g157,c157,exec,aops,astep,wantedA,aop,evO,setO,setU,getE,getE_setE,lget,lget_lset,aBin,aInt,aUn,AV.cells,newVar,padd,rd,wr,asElem,single,splice,aStr,adraw,ascan,exp,gets,RV.get,tupled,frz,frzW,gateW]
 | 11,_,_ => simp [Runs,g157,c157,exec,aops,astep,wantedA,aop,evO,setO,setU,getE,getE_setE,lget,lget_lset,aBin,aInt,aUn,AV.cells,newVar,padd,rd,wr,asElem,single,splice,aStr,adraw,ascan,exp,gets,RV.get,tupled,frz,frzW,gateW]
 | 12,_,_ => simp [Runs,g157,c157,exec,aops,astep,wantedA,aop,evO,setO,setU,getE,getE_setE,lget,lget_lset,aBin,aInt,aUn,AV.cells,newVar,padd,rd,wr,asElem,single,splice,aStr,adraw,ascan,exp,gets,RV.get,tupled,frz,frzW,gateW]
 | n + 13,_,h' => omega
theorem f88 (n : Nat) (h : n <= 24) (m : Mem) : cvl (C u) (.fn (.func 88) [] []) [.int .i64 n] m = some (.str (wordN n),m) := by
 refine call_runs (g := g88) (by rfl) (by rfl) (by rfl) ?_
 match n,h with
 | 0,_ => simp [Runs,g88,c88,exec,aops,astep,wantedA,aop,evO,setO,setU,getE,getE_setE,lget,lget_lset,aBin,aInt,aUn,AV.cells,newVar,padd,rd,wr,asElem,single,splice,aStr,adraw,ascan,exp,gets,RV.get,tupled,frz,frzW,wordN,allW,gateW,keyW]
 | 1,_ => simp [Runs,g88,c88,exec,aops,astep,wantedA,aop,evO,setO,setU,getE,getE_setE,lget,lget_lset,aBin,aInt,aUn,AV.cells,newVar,padd,rd,wr,asElem,single,splice,aStr,adraw,ascan,exp,gets,RV.get,tupled,frz,frzW,wordN,allW,gateW,keyW]
 | 2,_ => simp [Runs,g88,c88,exec,aops,astep,wantedA,aop,evO,setO,setU,getE,getE_setE,lget,lget_lset,aBin,aInt,aUn,AV.cells,newVar,padd,rd,wr,asElem,single,splice,aStr,adraw,ascan,exp,gets,RV.get,tupled,frz,frzW,wordN,allW,gateW,keyW]
 | 3,_ => simp [Runs,g88,c88,exec,aops,astep,wantedA,aop,evO,setO,setU,getE,getE_setE,lget,lget_lset,aBin,aInt,aUn,AV.cells,newVar,padd,rd,wr,asElem,single,splice,aStr,adraw,ascan,exp,gets,RV.get,tupled,frz,frzW,wordN,allW,gateW,keyW]
 | 4,_ => simp [Runs,g88,c88,exec,aops,astep,wantedA,aop,evO,setO,setU,getE,getE_setE,lget,lget_lset,aBin,aInt,aUn,AV.cells,newVar,padd,rd,wr,asElem,single,splice,aStr,adraw,ascan,exp,gets,RV.get,tupled,frz,frzW,wordN,allW,gateW,keyW]
 | 5,_ => simp [Runs,g88,c88,exec,aops,astep,wantedA,aop,evO,setO,setU,getE,getE_setE,lget,lget_lset,aBin,aInt,aUn,AV.cells,newVar,padd,rd,wr,asElem,single,splice,aStr,adraw,ascan,exp,gets,RV.get,tupled,frz,frzW,wordN,allW,gateW,keyW]
 | 6,_ => simp [Runs,g88,c88,exec,aops,astep,wantedA,aop,evO,setO,setU,getE,getE_setE,lget,lget_lset,aBin,aInt,aUn,AV.cells,newVar,padd,rd,wr,asElem,single,splice,aStr,adraw,ascan,exp,gets,RV.get,tupled,frz,frzW,wordN,allW,gateW,keyW]
 | 7,_ => simp [Runs,g88,c88,exec,aops,astep,wantedA,aop,evO,setO,setU,getE,getE_setE,lget,lget_lset,aBin,aInt,aUn,AV.cells,newVar,padd,rd,wr,asElem,single,splice,aStr,adraw,ascan,exp,gets,RV.get,tupled,frz,frzW,wordN,allW,gateW,keyW]
 | 8,_ => simp [Runs,g88,c88,exec,aops,astep,wantedA,aop,evO,setO,setU,getE,getE_setE,lget,lget_lset,aBin,aInt,aUn,AV.cells,newVar,padd,rd,wr,asElem,single,splice,aStr,adraw,ascan,exp,gets,RV.get,tupled,frz,frzW,wordN,allW,gateW,keyW]
 | 9,_ => simp [Runs,g88,c88,exec,aops,astep,wantedA,aop,evO,setO,setU,getE,getE_setE,lget,lget_lset,aBin,aInt,aUn,AV.cells,newVar,padd,rd,wr,asElem,single,splice,aStr,adraw,ascan,exp,gets,RV.get,tupled,frz,frzW,wordN,allW,gateW,keyW]
 | 10,_ => simp [Runs,g88,c88,exec,aops,astep,wantedA,aop,evO,setO,setU,getE,getE_setE,lget,lget_lset,aBin,aInt,aUn,AV.cells,newVar,padd,rd,wr,asElem,single,splice,aStr,adraw,ascan,exp,gets,RV.get,tupled,frz,frzW,wordN,allW,gateW,keyW]
 | 11,_ => simp [Runs,g88,c88,exec,aops,astep,wantedA,aop,evO,setO,setU,getE,getE_setE,lget,lget_lset,aBin,aInt,aUn,AV.cells,newVar,padd,rd,wr,asElem,single,splice,aStr,adraw,ascan,exp,gets,RV.get,tupled,frz,frzW,wordN,allW,gateW,keyW]
 | 12,_ => have e : ∀ m,cvl (C u) (.fn (.func 157) [] []) [.int .i64 1] m = some (.str (gateW.getD 0 []),m) := f157 (u := u) 1 (by omega) (by omega); simp [Runs,g88,c88,exec,aops,astep,wantedA,aop,evO,setO,setU,getE,getE_setE,lget,lget_lset,aBin,aInt,aUn,AV.cells,newVar,padd,rd,wr,asElem,single,splice,aStr,adraw,ascan,exp,gets,RV.get,tupled,frz,frzW,wordN,allW,gateW,keyW,e,IntKind.wrap,IntKind.bits]
 | 13,_ => have e : ∀ m,cvl (C u) (.fn (.func 157) [] []) [.int .i64 2] m = some (.str (gateW.getD 1 []),m) := f157 (u := u) 2 (by omega) (by omega); simp [Runs,g88,c88,exec,aops,astep,wantedA,aop,evO,setO,setU,getE,getE_setE,lget,lget_lset,aBin,aInt,aUn,AV.cells,newVar,padd,rd,wr,asElem,single,splice,aStr,adraw,ascan,exp,gets,RV.get,tupled,frz,frzW,wordN,allW,gateW,keyW,e,IntKind.wrap,IntKind.bits]
 | 14,_ => have e : ∀ m,cvl (C u) (.fn (.func 157) [] []) [.int .i64 3] m = some (.str (gateW.getD 2 []),m) := f157 (u := u) 3 (by omega) (by omega); simp [Runs,g88,c88,exec,aops,astep,wantedA,aop,evO,setO,setU,getE,getE_setE,lget,lget_lset,aBin,aInt,aUn,AV.cells,newVar,padd,rd,wr,asElem,single,splice,aStr,adraw,ascan,exp,gets,RV.get,tupled,frz,frzW,wordN,allW,gateW,keyW,e,IntKind.wrap,IntKind.bits]
 | 15,_ => have e : ∀ m,cvl (C u) (.fn (.func 157) [] []) [.int .i64 4] m = some (.str (gateW.getD 3 []),m) := f157 (u := u) 4 (by omega) (by omega); simp [Runs,g88,c88,exec,aops,astep,wantedA,aop,evO,setO,setU,getE,getE_setE,lget,lget_lset,aBin,aInt,aUn,AV.cells,newVar,padd,rd,wr,asElem,single,splice,aStr,adraw,ascan,exp,gets,RV.get,tupled,frz,frzW,wordN,allW,gateW,keyW,e,IntKind.wrap,IntKind.bits]
 | 16,_ => have e : ∀ m,cvl (C u) (.fn (.func 157) [] []) [.int .i64 5] m = some (.str (gateW.getD 4 []),m) := f157 (u := u) 5 (by omega) (by omega); simp [Runs,g88,c88,exec,aops,astep,wantedA,aop,evO,setO,setU,getE,getE_setE,lget,lget_lset,aBin,aInt,aUn,AV.cells,newVar,padd,rd,wr,asElem,single,splice,aStr,adraw,ascan,exp,gets,RV.get,tupled,frz,frzW,wordN,allW,gateW,keyW,e,IntKind.wrap,IntKind.bits]
 | 17,_ => have e : ∀ m,cvl (C u) (.fn (.func 157) [] []) [.int .i64 6] m = some (.str (gateW.getD 5 []),m) := f157 (u := u) 6 (by omega) (by omega); simp [Runs,g88,c88,exec,aops,astep,wantedA,aop,evO,setO,setU,getE,getE_setE,lget,lget_lset,aBin,aInt,aUn,AV.cells,newVar,padd,rd,wr,asElem,single,splice,aStr,adraw,ascan,exp,gets,RV.get,tupled,frz,frzW,wordN,allW,gateW,keyW,e,IntKind.wrap,IntKind.bits]
 | 18,_ => have e : ∀ m,cvl (C u) (.fn (.func 157) [] []) [.int .i64 7] m = some (.str (gateW.getD 6 []),m) := f157 (u := u) 7 (by omega) (by omega); simp [Runs,g88,c88,exec,aops,astep,wantedA,aop,evO,setO,setU,getE,getE_setE,lget,lget_lset,aBin,aInt,aUn,AV.cells,newVar,padd,rd,wr,asElem,single,splice,aStr,adraw,ascan,exp,gets,RV.get,tupled,frz,frzW,wordN,allW,gateW,keyW,e,IntKind.wrap,IntKind.bits]
 | 19,_ => have e : ∀ m,cvl (C u) (.fn (.func 157) [] []) [.int .i64 8] m = some (.str (gateW.getD 7 []),m) := f157 (u := u) 8 (by omega) (by omega); simp [Runs,g88,c88,exec,aops,astep,wantedA,aop,evO,setO,setU,getE,getE_setE,lget,lget_lset,aBin,aInt,aUn,AV.cells,newVar,padd,rd,wr,asElem,single,splice,aStr,adraw,ascan,exp,gets,RV.get,tupled,frz,frzW,wordN,allW,gateW,keyW,e,IntKind.wrap,IntKind.bits]
 | 20,_ => have e : ∀ m,cvl (C u) (.fn (.func 157) [] []) [.int .i64 9] m = some (.str (gateW.getD 8 []),m) := f157 (u := u) 9 (by omega) (by omega); simp [Runs,g88,c88,exec,aops,astep,wantedA,aop,evO,setO,setU,getE,getE_setE,lget,lget_lset,aBin,aInt,aUn,AV.cells,newVar,padd,rd,wr,asElem,single,splice,aStr,adraw,ascan,exp,gets,RV.get,tupled,frz,frzW,wordN,allW,gateW,keyW,e,IntKind.wrap,IntKind.bits]
 | 21,_ => have e : ∀ m,cvl (C u) (.fn (.func 157) [] []) [.int .i64 10] m = some (.str (gateW.getD 9 []),m) := f157 (u := u) 10 (by omega) (by omega); simp [Runs,g88,c88,exec,aops,astep,wantedA,aop,evO,setO,setU,getE,getE_setE,lget,lget_lset,aBin,aInt,aUn,AV.cells,newVar,padd,rd,wr,asElem,single,splice,aStr,adraw,ascan,exp,gets,RV.get,tupled,frz,frzW,wordN,allW,gateW,keyW,e,IntKind.wrap,IntKind.bits]
 | 22,_ => have e : ∀ m,cvl (C u) (.fn (.func 157) [] []) [.int .i64 11] m = some (.str (gateW.getD 10 []),m) := f157 (u := u) 11 (by omega) (by omega); simp [Runs,g88,c88,exec,aops,astep,wantedA,aop,evO,setO,setU,getE,getE_setE,lget,lget_lset,aBin,aInt,aUn,AV.cells,newVar,padd,rd,wr,asElem,single,splice,aStr,adraw,ascan,exp,gets,RV.get,tupled,frz,frzW,wordN,allW,gateW,keyW,e,IntKind.wrap,IntKind.bits]
 | 23,_ => have e : ∀ m,cvl (C u) (.fn (.func 157) [] []) [.int .i64 12] m = some (.str (gateW.getD 11 []),m) := f157 (u := u) 12 (by omega) (by omega); simp [Runs,g88,c88,exec,aops,astep,wantedA,aop,evO,setO,setU,getE,getE_setE,lget,lget_lset,aBin,aInt,aUn,AV.cells,newVar,padd,rd,wr,asElem,single,splice,aStr,adraw,ascan,exp,gets,RV.get,tupled,frz,frzW,wordN,allW,gateW,keyW,e,IntKind.wrap,IntKind.bits]
 | 24,_ => simp [Runs,g88,c88,exec,aops,astep,wantedA,aop,evO,setO,setU,getE,getE_setE,lget,lget_lset,aBin,aInt,aUn,AV.cells,newVar,padd,rd,wr,asElem,single,splice,aStr,adraw,ascan,exp,gets,RV.get,tupled,frz,frzW,wordN,allW,gateW,keyW]
 | n + 25,h => omega
end Go.Abs.Tz
set_option maxRecDepth 100000
set_option maxHeartbeats 4000000
namespace Go.Abs.Tz
open Go.Abs
variable {u : Nat}
attribute [local simp] exec aops astep wantedA aop evO setO setU getE getE_setE lget lget_lset aBin aInt aUn AV.cells newVar padd rd wr asElem single splice aStr adraw ascan Runs gets RV.get tupled frz_int frz_bool
theorem f217 (s : List Nat) (m : Mem) : cvl (C u) (.fn (.func 217) [] []) [.str s] m = some (.bool (hasW s),m) := by
 refine call_runs (g := g217) (by rfl) (by rfl) (by rfl) ?_
 simp only [List.map_cons,List.map_nil,exp,g217,c217]
 let K : St -> Prop := fun st => getE st.env 0 = .str s /\ st.mem = { blks := m.blks,touched := [] }
 refine Runs.seq' (M := K) (by simp [K]) fun s1 ⟨h1,h2⟩ => ?_
 refine Runs.seq (M := fun st => K st /\ hasW s = false) ?_ fun s2 ⟨⟨h1,h2⟩,h3⟩ => ?_
 ·let I : Nat -> St -> Prop := fun i st => K st /\ getE st.env 3 = .int .i64 i /\ ∀ j,j < i -> wordN j ≠ s
  refine Runs.seq' (M := I 0) (by simp [I,K,h1,h2]) fun s4 hI => ?_
  refine Runs.block (Runs.loop (I := I) 24 hI fun i st hi hst => ?_)
  obtain ⟨⟨q1,q2⟩,q3,q4⟩ := hst
  have e := f88 (u := u) i hi
  have hw : IntKind.wrap .i64 ((i : Int) + 1) = (i : Int) + 1 := wrap_i64 (by omega) (by omega)
  rcases Nat.lt_or_ge i 24 with hlt | hge
  ·have hne := wordN_ne i hlt
   by_cases he : wordN i = s
   ·right
    have hc := wordN_mem hlt he
    have hne' : s ≠ [] := he ▸ hne
    simp [l217_0,q1,q2,q3,e,he,hne',hc]
   ·left
    refine ⟨hlt,?_⟩
    simp [I,K,l217_0,q1,q2,q3,e,hne,he,hw]
    intro j hj
    rcases Nat.lt_or_ge j i with h | h
    ·exact q4 j h
    ·have : j = i := by omega
     subst this; exact he
  ·right
   have : i = 24 := by omega
   subst this
   have hz : wordN 24 = [] := by decide
   have hn := wordN_not q4
   rw [hz] at e
   have e' : ∀ m,cvl (C u) (.fn (.func 88) [] []) [.int .i64 24] m = some (.str [],m) := e
   simp [K,l217_0,q1,q2,q3,e',hn]
 ·simp [h1,h2,h3]
theorem namedB_eq (s : List Nat) : namedB s = (!(decide (s.length < 1) || decide (8 < s.length) || hasW s) && lettersB s) := by
 unfold namedB
 have : hasW s = (keyW.contains s || gateW.contains s) := by simp [hasW,allW]
 rw [this]
 by_cases h1 : s.length < 1 <;> by_cases h2 : 8 < s.length <;> cases keyW.contains s <;> cases gateW.contains s <;> cases lettersB s <;> simp [h1,h2] <;> first | omega | (intro; omega) | exact List.eq_nil_of_length_eq_zero (by omega) | skip
theorem f164 (s : List Nat) (m : Mem) : cvl (C u) (.fn (.func 164) [] []) [.str s] m = some (.bool (namedB s),m) := by
 refine call_runs (g := g164) (by rfl) (by rfl) (by rfl) ?_
 simp only [List.map_cons,List.map_nil,exp,g164,c164]
 let K : St -> Prop := fun st => getE st.env 0 = .str s /\ st.mem = { blks := m.blks,touched := [] }
 refine Runs.seq' (M := K) (by simp [K]) fun s1 ⟨h1,h2⟩ => ?_
 refine Runs.seq (M := fun st => K st /\ 1 <= s.length /\ s.length <= 8 /\ hasW s = false) ?_ fun s2 ⟨⟨h1,h2⟩,g1,g2,g3⟩ => ?_
 ·have e := f217 (u := u) s
  by_cases c1 : s.length < 1
  ·have : namedB s = false := by rw [namedB_eq]; simp [c1]
   have c1' : (s.length : Int) < 1 := by omega
   simp [K,h1,h2,c1',this]
  have c1' : ¬ (s.length : Int) < 1 := by omega
  by_cases c2 : 8 < s.length
  ·have : namedB s = false := by rw [namedB_eq]; simp [c2]
   have c2' : (8 : Int) < s.length := by omega
   simp [K,h1,h2,c1',c2',this]
  have c2' : ¬ (8 : Int) < s.length := by omega
  cases c3 : hasW s with
  | true =>
   have : namedB s = false := by rw [namedB_eq]; simp [c3]
   rw [c3] at e
   simp [K,h1,h2,c1',c2',e,this]
  | false =>
   rw [c3] at e
   have c1'' : 1 <= s.length := by omega
   have c2'' : s.length <= 8 := by omega
   simp [K,h1,h2,c1',c2',c1'',c2'',e]
 ·have hnm : namedB s = lettersB s := by
   have n1 : ¬ s.length < 1 := by omega
   have n2 : ¬ 8 < s.length := by omega
   rw [namedB_eq,g3]; simp only [n1,n2,decide_false,Bool.or_self,Bool.not_false,Bool.true_and]
  rw [hnm]
  refine Runs.seq (M := fun st => K st /\ lettersB s = true) ?_ fun s2 ⟨⟨h1,h2⟩,h3⟩ => ?_
  ·let I : Nat -> St -> Prop := fun i st => K st /\ getE st.env 3 = .int .i64 i /\ ∀ j (hj : j < s.length),j < i -> 97 <= s[j] /\ s[j] <= 122
   refine Runs.seq' (M := I 0) (by simp [I,K,h1,h2]) fun s4 hI => ?_
   refine Runs.block (Runs.loop (I := I) s.length hI fun i st hi hst => ?_)
   obtain ⟨⟨q1,q2⟩,q3,q4⟩ := hst
   have hw : IntKind.wrap .i64 ((i : Int) + 1) = (i : Int) + 1 := wrap_i64 (by omega) (by omega)
   rcases Nat.lt_or_ge i s.length with hlt | hge
   ·by_cases a1 : s[i] < 97
    ·right
     have hn : lettersB s = false := by
      simp only [lettersB,List.all_eq_false]
      exact ⟨s[i],List.getElem_mem hlt,by simp; omega⟩
     have a1' : (s[i] : Int) < 97 := by omega
     simp [l164_0,q1,q2,q3,hlt,a1',hn]
    by_cases a2 : 122 < s[i]
    ·right
     have hn : lettersB s = false := by
      simp only [lettersB,List.all_eq_false]
      exact ⟨s[i],List.getElem_mem hlt,by simp; omega⟩
     have a1' : ¬ (s[i] : Int) < 97 := by omega
     have a2' : (122 : Int) < s[i] := by omega
     simp [l164_0,q1,q2,q3,hlt,a1',a2',hn]
    ·left
     have a1' : ¬ (s[i] : Int) < 97 := by omega
     have a2' : ¬ (122 : Int) < s[i] := by omega
     refine ⟨hlt,?_⟩
     simp [I,K,l164_0,q1,q2,q3,hlt,a1',a2',hw]
     intro j hj hji
     rcases Nat.lt_or_ge j i with h | h
     ·exact q4 j hj h
     ·have : j = i := by omega
      subst this; omega
   ·right
    have : i = s.length := by omega
    subst this
    have hy : lettersB s = true := by
     simp only [lettersB,List.all_eq_true]
     intro b hb
     obtain ⟨j,hj,rfl⟩ := List.getElem_of_mem hb
     have := q4 j hj hj
     simp; omega
    simp [K,l164_0,q1,q2,q3,hy]
  ·simp [h1,h2,h3]
end Go.Abs.Tz
