/- The abstract executor: code, calls, and the limit in which no count of rounds and no depth of calls stands. -/
import Derived.Test.YtiigojkfojnedaaGreatDoorXA
set_option linter.unusedVariables false
set_option linter.unusedSimpArgs false
namespace Go.Abs

inductive Ex
  | normal
  | exit (id : Nat)
  | ret
  deriving DecidableEq, Inhabited

structure St where
  env : List AV
  loc : Loc
  mem : Mem
  deriving Inhabited

def evO (gl : Nat → AV) (env : List AV) : Opd → AV
  | .t n => getE env n
  | .c v => v
  | .g n => gl n

def wantedA (env : List AV) : Option (Nat × Bool) → Option Bool
  | none => some true
  | some (d, want) => match getE env d with
    | .bool b => some (b == want)
    | .undef => some false
    | _ => none

def setO (env : List AV) : Option Nat → AV → List AV
  | none, _ => env
  | some d, v => setE env d v

def setU (loc : Loc) : Upd → Loc
  | none => loc
  | some (d, v, b) => lset loc d (v, b)

def astep (gl : Nat → AV) (callv : CallV) (o : AOp) (s : St) : Option St :=
  match wantedA s.env o.guard with
  | none => none
  | some true => match aop (evO gl s.env) (lget s.loc) s.mem callv o.dst o.op with
    | some (v, u, m) => some { env := setO s.env o.dst v, loc := setU s.loc u, mem := m }
    | none => none
  | some false => some { s with env := setO s.env o.dst .undef }

def aops (gl : Nat → AV) (callv : CallV) : List AOp → St → Option St
  | [], s => some s
  | o :: l, s => match astep gl callv o s with
    | some s' => aops gl callv l s'
    | none => none

/-- The states ahead of each operation, and behind the last one. -/
def ascan (gl : Nat → AV) (callv : CallV) : List AOp → St → Option (List St)
  | [], s => some [s]
  | o :: l, s => match astep gl callv o s with
    | some s' => (ascan gl callv l s').map (s :: ·)
    | none => none

def eqRd : Option (List AV) → Option (List AV) → Bool
  | some a, some b => AV.beqs a b
  | _, _ => false

def isSt (l : List AOp) (j : Nat) : Bool := match l[j]? with
  | some o => match o.op with
    | .st _ _ _ => true
    | _ => false
  | none => false

/-- The load i and the call (or store) j may come in either order: what i reads is the same ahead of j and behind it. -/
def chkLoad (gl : Nat → AV) (l : List AOp) (tr : List St) (i j : Nat) : Bool :=
  match l[i]?, tr[i]?, tr[j]?, tr[j + 1]? with
  | some o, some si, some sj, some sj' =>
    match wantedA si.env o.guard, o.op with
    | some false, _ => true
    | _, .ld _ n a => match evO gl si.env a with
      | .gptr id off => eqRd (rd (fun _ => none) sj.mem (.gptr id off) n) (rd (fun _ => none) si.mem (.gptr id off) n) &&
          eqRd (rd (fun _ => none) sj'.mem (.gptr id off) n) (rd (fun _ => none) si.mem (.gptr id off) n)
      | .lptr d v off => !(isSt l j) || eqRd (rd (lget sj.loc) { blks := [], touched := [] } (.lptr d v off) n) (rd (lget si.loc) { blks := [], touched := [] } (.lptr d v off) n) &&
          eqRd (rd (lget sj'.loc) { blks := [], touched := [] } (.lptr d v off) n) (rd (lget si.loc) { blks := [], touched := [] } (.lptr d v off) n)
      | _ => true
    | _, _ => false
  | _, _, _, _ => false

/-- The new variable i and the load j may come in either order: j does not read what i makes. -/
def chkNew (gl : Nat → AV) (l : List AOp) (tr : List St) (i j : Nat) : Bool :=
  match l[i]?, l[j]?, tr[j]? with
  | some oi, some o, some sj => match o.op with
    | .ld _ _ a => match evO gl sj.env a with
      | .lptr d _ _ => oi.dst != some d
      | _ => true
    | _ => false
  | _, _, _ => false

def adraw (gl : Nat → AV) (callv : CallV) (l : List AOp) (cf af : List (Nat × Nat)) (s : St) : Option St :=
  match ascan gl callv l s with
  | some tr => if cf.all (fun p => chkLoad gl l tr p.1 p.2) && af.all (fun p => chkNew gl l tr p.1 p.2) then tr.getLast? else none
  | none => none

abbrev LoopV := (St → Option (Ex × St)) → St → Option (Ex × St)

/-- References beyond the end are struck out of a block. -/
def Blk.scrub (n : Nat) : Blk → Blk
  | .cells l => .cells (l.map (exp n true))
  | b => b
def Blk.clean (id : Nat) : Blk → Bool
  | .cells l => los id l
  | _ => true

def scrubs (n : Nat) : List Nat → List Blk → List Blk
  | [], bs => bs
  | i :: l, bs => scrubs n l (match bs[i]? with
    | some b => bs.set i (b.scrub n)
    | none => bs)

/-- Back from a call: what it made is gone. -/
def Mem.back (m0 m : Mem) : Mem :=
  let n := m0.blks.length
  let bs := scrubs n m.touched (m.blks.take n)
  { blks := bs, touched := m0.touched ++ m.touched.filter fun i => match bs[i]? with
      | some b => !b.clean i
      | none => false }

/-- A function of the program. -/
def AV.isFunc : AV → Option AV
  | .fn (.func f) a b => some (.fn (.func f) a b)
  | _ => none

def exec (gl : Nat → AV) (callv : CallV) (lp : LoopV) : AC → St → Option (Ex × St)
  | .skip, s => some (.normal, s)
  | .ops l, s => (aops gl callv l s).map fun s' => (.normal, s')
  | .draw l cf af, s => (adraw gl callv l cf af s).map fun s' => (.normal, s')
  | .seq a b, s => match exec gl callv lp a s with
    | some (.normal, s') => exec gl callv lp b s'
    | r => r
  | .cond x a b, s => match evO gl s.env x with
    | .bool t => if t then exec gl callv lp a s else exec gl callv lp b s
    | _ => none
  | .block id a, s => match exec gl callv lp a s with
    | some (.exit i, s') => if i = id then some (.normal, s') else some (.exit i, s')
    | r => r
  | .loop a, s => lp (exec gl callv lp a) s
  | .exit id, s => some (.exit id, s)
  | .ret, s => some (.ret, s)
  | .rfun f ps asg body, s =>
    match (evO gl s.env f).isFunc.bind fun f => callv f [.fn (.yield s.mem.blks.length) [] []] { blks := s.mem.blks ++ [.loop (s.env.map s.mem.nol) ps asg body .ready], touched := [] } with
    | some (_, m) => match m.blks[s.mem.blks.length]? with
      | some (.loop _ _ _ _ .ready) => some (.normal, { s with mem := s.mem.back m })
      | some (.loop _ _ _ _ (.done none)) => some (.ret, { s with mem := s.mem.back m })
      | some (.loop _ _ _ _ (.done (some i))) => some (.exit i, { s with mem := s.mem.back m })
      | _ => none
    | none => none
  | .bad, _ => none

def aloop : Nat → LoopV
  | 0, _, _ => none
  | n + 1, body, s => match body s with
    | some (.normal, s') => aloop n body s'
    | r => r

inductive RV
  | tmp (t : Nat)
  | cell (a : Nat) (ag : Bool) (n : Nat)
  deriving Inhabited

structure AF where
  ntmps : Nat
  results : List RV
  code : AC
  deriving Inhabited

abbrev Prim := List AV → Mem → Option (AV × Mem)

structure Cfg where
  gl : Nat → AV
  fs : Nat → Option AF
  prim : Nat → Option Prim
  keep : Nat → Bool

def RV.get (s : St) : RV → Option AV
  | .tmp t => some (getE s.env t)
  | .cell a ag n => match rd (lget s.loc) s.mem (getE s.env a) n with
    | some l => asElem ag l
    | none => none

def gets (s : St) : List RV → Option (List AV)
  | [] => some []
  | r :: l => match r.get s with
    | some v => (gets s l).map (v :: ·)
    | none => none

def tupled : List AV → AV
  | [v] => v
  | l => .tup l

/-- What a call hands back. -/
def fin (g : AF) (keep : Bool) (m0 : Mem) : Option (Ex × St) → Option (AV × Mem)
  | some (.exit _, _) => none
  | some (_, s) => match gets s g.results with
    | some l => if keep then some (exp s.mem.blks.length true (tupled l), { blks := s.mem.blks, touched := m0.touched ++ s.mem.touched })
        else some (frz s.mem.blks m0.blks.length 8 (tupled l), m0.back s.mem)
    | none => none
  | none => none

def setPs : List AV → List Nat → List AV → List AV
  | env, [], _ => env
  | env, _, [] => env
  | env, p :: ps, v :: vs => setPs (setE env p v) ps vs

def Mem.setLS (m : Mem) (l : Nat) (st : LS) : Mem :=
  match m.blks[l]? with
  | some (.loop env ps asg body _) => { m with blks := m.blks.set l (.loop env ps asg body st) }
  | _ => m
def Mem.ls (m : Mem) (l : Nat) : Option LS :=
  match m.blks[l]? with
  | some (.loop _ _ _ _ st) => some st
  | _ => none

def round (ex : AC → St → Option (Ex × St)) (l : Nat) (args : List AV) (mem : Mem) : Option (AV × Mem) :=
  match mem.blks[l]? with
  | some (.loop env ps asg body _) =>
    if ps.length = args.length then
      match ex asg { env := setPs env ps (args.map (exp mem.blks.length false)), loc := [], mem := mem } with
      | some (.normal, s1) =>
        if s1.mem.ls l = some .ready then
          match ex body { s1 with mem := s1.mem.setLS l .busy } with
          | some (.normal, s2) => if s2.mem.ls l = some .busy then some (.bool true, s2.mem.setLS l .ready) else none
          | some (.ret, s2) => if s2.mem.ls l = some .busy then some (.bool false, s2.mem.setLS l (.done none)) else none
          | some (.exit i, s2) => if s2.mem.ls l = some .busy then some (.bool false, s2.mem.setLS l (.done (some i))) else none
          | none => none
        else none
      | _ => none
    else none
  | _ => none

def body (C : Cfg) (callv : CallV) (lp : LoopV) : CallV := fun fv args mem =>
  match fv with
  | .fn (.func f) first cap =>
    match C.prim f with
    | some p => p ((first ++ args ++ cap).map (exp mem.blks.length (C.keep f))) mem
    | none => match C.fs f with
      | some g => fin g (C.keep f) mem (exec C.gl callv lp g.code
          { env := (first ++ args ++ cap).map (exp mem.blks.length (C.keep f)), loc := [], mem := { blks := mem.blks, touched := [] } })
      | none => none
  | .fn (.yield l) [] [] => round (exec C.gl callv lp) l args mem
  | _ => none

def cv (C : Cfg) : Nat → CallV
  | 0 => fun _ _ _ => none
  | n + 1 => body C (cv C n) (aloop n)

/-! ### more rounds, more depth: the same answer -/
def CallV.le (c c' : CallV) : Prop := ∀ fv args mem r, c fv args mem = some r → c' fv args mem = some r
def LoopV.le (l l' : LoopV) : Prop := ∀ b b' : St → Option (Ex × St), (∀ s r, b s = some r → b' s = some r) → ∀ s r, l b s = some r → l' b' s = some r

theorem aop_mono {ev lk mem dst o r} {c c' : CallV} (h : c.le c') (hr : aop ev lk mem c dst o = some r) : aop ev lk mem c' dst o = some r := by
  cases o <;> try exact hr
  case call f args =>
    simp only [aop, Option.map_eq_some_iff] at hr ⊢
    obtain ⟨x, hx, rfl⟩ := hr
    exact ⟨x, h _ _ _ _ hx, rfl⟩

theorem astep_mono {gl o s r} {c c' : CallV} (h : c.le c') (hr : astep gl c o s = some r) : astep gl c' o s = some r := by
  unfold astep at hr ⊢
  split at hr
  · cases hr
  · split at hr
    · rename_i he; rw [aop_mono h he]; exact hr
    · cases hr
  · exact hr

theorem aops_mono {gl l s r} {c c' : CallV} (h : c.le c') (hr : aops gl c l s = some r) : aops gl c' l s = some r := by
  induction l generalizing s with
  | nil => exact hr
  | cons o l ih =>
    simp only [aops] at hr ⊢
    split at hr
    · rename_i he; rw [astep_mono h he]; exact ih hr
    · cases hr

theorem ascan_mono {gl l s r} {c c' : CallV} (h : c.le c') (hr : ascan gl c l s = some r) : ascan gl c' l s = some r := by
  induction l generalizing s r with
  | nil => exact hr
  | cons o l ih =>
    simp only [ascan] at hr ⊢
    split at hr
    · rename_i he
      rw [astep_mono h he]
      simp only [Option.map_eq_some_iff] at hr ⊢
      obtain ⟨x, hx, rfl⟩ := hr
      exact ⟨x, ih hx, rfl⟩
    · cases hr

theorem adraw_mono {gl l cf af s r} {c c' : CallV} (h : c.le c') (hr : adraw gl c l cf af s = some r) : adraw gl c' l cf af s = some r := by
  unfold adraw at hr ⊢
  split at hr
  · rename_i he; rw [ascan_mono h he]; exact hr
  · cases hr

theorem exec_mono {gl} {c c' : CallV} {l l' : LoopV} (h : c.le c') (hl : l.le l') (a : AC) : ∀ s r, exec gl c l a s = some r → exec gl c' l' a s = some r := by
  induction a with
  | skip => intro s r hr; exact hr
  | ops x =>
    intro s r hr
    simp only [exec, Option.map_eq_some_iff] at hr ⊢
    obtain ⟨x, hx, rfl⟩ := hr
    exact ⟨x, aops_mono h hx, rfl⟩
  | draw x cf af =>
    intro s r hr
    simp only [exec, Option.map_eq_some_iff] at hr ⊢
    obtain ⟨x, hx, rfl⟩ := hr
    exact ⟨x, adraw_mono h hx, rfl⟩
  | seq a b iha ihb =>
    intro s r hr
    simp only [exec] at hr ⊢
    split at hr
    · rename_i he; rw [iha _ _ he]; exact ihb _ _ hr
    · rename_i hne
      rw [iha _ _ hr]
      split
      · rename_i he; rw [he] at hr; exact absurd hr (hne _)
      · rfl
  | cond x a b iha ihb =>
    intro s r hr
    simp only [exec] at hr ⊢
    split at hr
    · split at hr
      · rename_i he ht; simp only [ht, if_true]; exact iha _ _ hr
      · rename_i he ht; simp only [ht]; exact ihb _ _ hr
    · cases hr
  | block id a iha =>
    intro s r hr
    simp only [exec] at hr ⊢
    split at hr
    · rename_i he; rw [iha _ _ he]; exact hr
    · rename_i hne
      rw [iha _ _ hr]
      split
      · rename_i he; rw [he] at hr; exact absurd hr (hne _ _)
      · rfl
  | loop a iha =>
    intro s r hr
    simp only [exec] at hr ⊢
    exact hl _ _ iha _ _ hr
  | exit id => intro s r hr; exact hr
  | ret => intro s r hr; exact hr
  | rfun f ps asg body _ _ =>
    intro s r hr
    simp only [exec] at hr ⊢
    split at hr
    · rename_i he
      obtain ⟨fv, h1, h2⟩ := Option.bind_eq_some_iff.1 he
      rw [h1]
      simp only [Option.bind_some, h _ _ _ _ h2]; exact hr
    · cases hr
  | bad => intro s r hr; exact hr

theorem aloop_mono (n n' : Nat) (h : n ≤ n') : LoopV.le (aloop n) (aloop n') := by
  intro b b' hb s r hr
  induction n generalizing n' s with
  | zero => simp [aloop] at hr
  | succ n ih =>
    obtain ⟨m, rfl⟩ : ∃ m, n' = m + 1 := ⟨n' - 1, by omega⟩
    simp only [aloop] at hr ⊢
    split at hr
    · rename_i he; rw [hb _ _ he]; exact ih m (by omega) _ hr
    · rename_i hne
      rw [hb _ _ hr]
      split
      · rename_i he; rw [he] at hr; exact absurd hr (hne _)
      · rfl

theorem round_mono {e e' : AC → St → Option (Ex × St)} (h : ∀ a s r, e a s = some r → e' a s = some r) {l args mem r} (hr : round e l args mem = some r) : round e' l args mem = some r := by
  unfold round at hr ⊢
  split at hr
  · split at hr
    · rename_i hlen
      simp only [hlen, if_true]
      split at hr
      · rename_i he
        rw [h _ _ _ he]
        dsimp only at hr ⊢
        split at hr
        · rename_i hls
          simp only [hls, if_true]
          split at hr
          · rename_i he2; simp only [h _ _ _ he2]; exact hr
          · rename_i he2; simp only [h _ _ _ he2]; exact hr
          · rename_i he2; simp only [h _ _ _ he2]; exact hr
          · cases hr
        · cases hr
      · cases hr
    · cases hr
  · cases hr

theorem body_mono {C : Cfg} {c c' : CallV} {l l' : LoopV} (h : c.le c') (hl : l.le l') : (body C c l).le (body C c' l') := by
  intro fv args mem r hr
  unfold body at hr ⊢
  split at hr
  · split at hr
    · exact hr
    · split at hr
      · rename_i hg
        generalize he : exec C.gl c l _ _ = x at hr
        cases x with
        | none => simp [fin] at hr
        | some x => simp only [exec_mono h hl _ _ _ he]; exact hr
      · cases hr
  · exact round_mono (fun a s r => exec_mono h hl a s r) hr
  · cases hr

theorem cv_mono_succ (C : Cfg) (n : Nat) : (cv C n).le (cv C (n + 1)) := by
  induction n with
  | zero => intro fv args mem r hr; simp [cv] at hr
  | succ n ih => exact body_mono ih (aloop_mono _ _ (by omega))

theorem cv_mono (C : Cfg) {n n' : Nat} (h : n ≤ n') : (cv C n).le (cv C n') := by
  induction h with
  | refl => exact fun _ _ _ _ h => h
  | step _ ih => exact fun _ _ _ _ h => cv_mono_succ C _ _ _ _ _ (ih _ _ _ _ h)

end Go.Abs
