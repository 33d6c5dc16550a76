/- A text of this proof. -/
import Derived.Test.YtiigojkfojnedaaGreatDoorPHa
import Derived.Test.YtiigojkfojnedaaGreatDoorPPr
import Derived.Test.YtiigojkfojnedaaGreatDoorPHr
import Derived.Test.YtiigojkfojnedaaGreatDoorPHq
set_option linter.unusedVariables false
set_option linter.unusedSimpArgs false
namespace Go.Abs
def paren (b : Bool) (s : List Nat) : List Nat := if b then 40 :: (s ++ [41]) else s
def opT (k : Int) : List Nat := if k = 3 then [32,43,32] else if k = 4 then [32,45,32] else [32,42,32]
def isSum (k : Int) : Bool := decide (k = 3) || decide (k = 4)
def Idx.kind : Idx -> Int
 | .mk k _ _ _ _ => k
def joinT (k n : Int) (s : List Nat) (ks : List Int) (ts : List (List Nat)) : List Nat :=
 if k = 1 then dec2 n.toNat else if k = 2 then s else
  match ks,ts with
  | [ka,kb],[ta,tb] => paren (decide (k = 5) && isSum ka) ta ++ opT k ++ paren (if k = 5 then decide (3 <= kb) else isSum kb) tb
  | _,_ => []
mutual
def Idx.text : Idx -> List Nat
 | .mk k n s _ l => joinT k n s (l.map Idx.kind) (Idx.texts l)
def Idx.texts : List Idx -> List (List Nat)
 | [] => []
 | x :: l => x.text :: Idx.texts l
end
mutual
def Idx.Shp : Idx -> Prop
 | .mk k n s _ l => shapeE k n l.length = 0 /\ (k = 2 -> s.length <= 8) /\ Idx.Shps l
def Idx.Shps : List Idx -> Prop
 | [] => True
 | x :: l => x.Shp /\ Idx.Shps l
end
theorem Idx.shps_mem {l : List Idx} (h : Idx.Shps l) : ∀ x ∈ l,x.Shp := by
 induction l with
 | nil => intro x hx; cases hx
 | cons a l ih =>
  intro x hx
  rcases List.mem_cons.1 hx with rfl | hx
  ·exact h.1
  ·exact ih h.2 x hx
theorem Idx.part_shp {may : List Nat -> Bool} {no : Int} (hno : no ≠ 0) (hm : ∀ s,may s = true -> s.length <= 8) (x : Idx) : x.part may no = 0 -> x.Shp := by
 refine Idx.ind' (Q := fun x => x.part may no = 0 -> x.Shp) (fun k n s c l ih h => ?_) x
 simp only [Idx.part] at h
 split at h
 ·contradiction
 ·rename_i h0
  split at h
  ·exact absurd h hno
  ·rename_i h2
   refine ⟨by simpa using h0,fun hk => ?_,?_⟩
   ·cases hb : may s with
    | true => exact hm s hb
    | false => exact absurd ⟨hk,hb⟩ h2
   ·induction l with
    | nil => trivial
    | cons a l ihl =>
     simp only [Idx.parts] at h
     split at h
     ·contradiction
     ·rename_i ha
      refine ⟨ih a (by simp) (by simpa using ha),?_⟩
      have go : ∀ l : List Idx,(∀ y ∈ l,y.part may no = 0 -> y.Shp) -> Idx.parts may no l = 0 -> Idx.Shps l := by
       intro l
       induction l with
       | nil => intro _ _; trivial
       | cons b l ih2 =>
        intro h1 h2
        simp only [Idx.parts] at h2
        split at h2
        ·contradiction
        ·rename_i hb
         exact ⟨h1 b (by simp) (by simpa using hb),ih2 (fun y hy => h1 y (by simp [hy])) h2⟩
      exact go l (fun y hy => ih y (by simp [hy])) h
theorem dec2_len (n : Nat) : (dec2 n).length <= 2 := by unfold dec2; split <;> simp
theorem paren_len (b : Bool) (s : List Nat) : (paren b s).length <= s.length + 2 := by unfold paren; split <;> simp
theorem opT_len (k : Int) : (opT k).length = 3 := by unfold opT; split <;> (try split) <;> rfl
theorem Idx.text_len (x : Idx) : x.Shp -> x.text.length <= 13 * x.cnt := by
 refine Idx.ind' (Q := fun x => x.Shp -> x.text.length <= 13 * x.cnt) (fun k n s c l ih h => ?_) x
 simp only [Idx.Shp] at h
 obtain ⟨h1,h2,h3⟩ := h
 simp only [Idx.text,Idx.cnt,joinT]
 split
 ·have := dec2_len n.toNat; omega
 ·split
  ·rename_i hk; have := h2 hk; omega
  ·match l with
   | [] => simp
   | [a] => simp
   | [a,b] =>
    have ha := ih a (by simp) (Idx.shps_mem h3 a (by simp))
    have hb := ih b (by simp) (Idx.shps_mem h3 b (by simp))
    have p1 := paren_len (decide (k = 5) && isSum a.kind) a.text
    have p2 := paren_len (if k = 5 then decide (3 <= b.kind) else isSum b.kind) b.text
    have p3 := opT_len k
    simp only [List.map_cons,List.map_nil,Idx.texts,List.length_append,Idx.cnts]
    omega
   | a :: b :: c :: l => simp [Idx.texts]
def commas : List (List Nat) -> List Nat
 | [] => []
 | [x] => x
 | x :: l => x ++ [44,32] ++ commas l
def Plc.text (p : Plc) : List Nat := match p.ix with
 | [] => p.name
 | [a] => p.name ++ [91] ++ a.text ++ [93]
 | a :: b :: _ => p.name ++ [91] ++ a.text ++ [32,58,32] ++ b.text ++ [93]
def plcsT (l : List Plc) : List Nat := commas (l.map Plc.text)
def Plc.Shp (p : Plc) : Prop := p.name.length <= 8 /\ p.ix.length <= 2 /\ ∀ x ∈ p.ix,x.Shp /\ x.cnt <= 9
theorem Plc.text_len (p : Plc) (h : p.Shp) : p.text.length <= 250 := by
 obtain ⟨nm,c,ix⟩ := p
 obtain ⟨h1,h2,h3⟩ := h
 simp only at h1 h2 h3
 match ix with
 | [] => simp [Plc.text]; omega
 | [a] =>
  obtain ⟨a1,a2⟩ := h3 a (by simp)
  have := Idx.text_len a a1
  simp [Plc.text]; omega
 | [a,b] =>
  obtain ⟨a1,a2⟩ := h3 a (by simp)
  obtain ⟨b1,b2⟩ := h3 b (by simp)
  have := Idx.text_len a a1
  have := Idx.text_len b b1
  simp [Plc.text]; omega
 | a :: b :: c :: l => simp at h2
theorem commas_len (l : List (List Nat)) (n : Nat) (h : ∀ x ∈ l,x.length <= n) : (commas l).length <= l.length * (n + 2) := by
 induction l with
 | nil => simp [commas]
 | cons a l ih =>
  have ha := h a (by simp)
  have hl := ih fun x hx => h x (by simp [hx])
  cases l with
  | nil => simp [commas]; omega
  | cons b l =>
   simp only [commas,List.length_append,List.length_cons,List.length_nil] at hl ⊢
   have : (l.length + 1 + 1) * (n + 2) = (l.length + 1) * (n + 2) + (n + 2) := by rw [Nat.add_mul (l.length + 1)]; omega
   omega
def bl2 : List Nat := [32,32]
def headT (k g : Int) (nm : List Nat) (pl : List Plc) (size to : Idx) : List Nat :=
 if k = 1 then gateW.getD (g - 1).toNat [] ++ [32] ++ plcsT pl
 else if k = 2 then [116,97,107,101,32] ++ nm ++ [91] ++ size.text ++ [93]
 else if k = 3 then [100,114,111,112,32] ++ nm
 else if k = 4 then [98,111,114,114,111,119,32] ++ nm ++ [91] ++ size.text ++ [93]
 else if k = 5 then [109,101,97,115,117,114,101,32] ++ plcsT pl ++ [32,58,32] ++ nm
 else if k = 6 then [114,101,115,101,116,32] ++ plcsT pl
 else if k = 7 then [105,102,32] ++ nm
 else if k = 8 then [102,111,114,32] ++ nm ++ [32,61,32] ++ size.text ++ [32,58,32] ++ to.text
 else if k = 9 then nm ++ [40] ++ plcsT pl ++ [41]
 else if k = 10 then [117,110,100,111]
 else [119,105,116,104,105,110]
def betweenT (k : Int) : List Nat := if k = 7 then [101,108,115,101] else [97,112,112,108,121]
mutual
def linesT : List Stp -> List Nat -> List Nat
 | [],_ => []
 | s :: l,b => lineT s b ++ linesT l b
def lineT : Stp -> List Nat -> List Nat
 | .mk k g nm _ pl size to _ body _ els,b => b ++ headT k g nm pl size to ++
   (if hasBody k = false then [59,10]
    else [32,123,10] ++ linesT body (b ++ bl2) ++
    (if hasElse k = true /\ ¬ (k = 7 /\ els.length = 0) then b ++ [125,32] ++ betweenT k ++ [32,123,10] ++ linesT els (b ++ bl2) else []) ++ b ++ [125,10])
end
def Par.text (p : Par) : List Nat := p.name ++ [91] ++ dec2 p.size.toNat ++ [93]
def Prc.text (p : Prc) : List Nat := [112,114,111,99,32] ++ p.name ++ [40] ++ commas (p.pars.map Par.text) ++ [41,32,123,10] ++ linesT p.body bl2 ++ [125,10]
def prcsT : List Prc -> List Nat
 | [] => []
 | p :: l => p.text ++ prcsT l
def ixR (x : Idx) : Prop := x.Shp /\ x.cnt <= 9
def plR (pl : List Plc) : Prop := pl.length <= 4 /\ ∀ p ∈ pl,p.Shp
def headR (k g : Int) (nm : List Nat) (pl : List Plc) (size to : Idx) : Prop :=
 (1 <= k /\ k <= 11) /\ (k = 1 -> 1 <= g /\ g <= 12) /\ (k = 2 \/ k = 3 \/ k = 4 \/ k = 5 \/ k = 7 \/ k = 8 \/ k = 9 -> nm.length <= 8) ∧
 (k = 1 \/ k = 5 \/ k = 6 \/ k = 9 -> plR pl) /\ (k = 2 \/ k = 4 \/ k = 8 -> ixR size) /\ (k = 8 -> ixR to)
mutual
def Stp.R : Stp -> Prop
 | .mk k g nm _ pl size to _ body _ els => headR k g nm pl size to /\ (hasBody k = true -> Stp.Rs body) /\ (hasElse k = true -> Stp.Rs els)
def Stp.Rs : List Stp -> Prop
 | [] => True
 | s :: l => s.R /\ Stp.Rs l
end
theorem Stp.rs_mem {l : List Stp} (h : Stp.Rs l) : ∀ x ∈ l,x.R := by
 induction l with
 | nil => intro x hx; cases hx
 | cons a l ih =>
  intro x hx
  rcases List.mem_cons.1 hx with rfl | hx
  ·exact h.1
  ·exact ih h.2 x hx
theorem plcsT_len {l : List Plc} (h : plR l) : (plcsT l).length <= 1008 := by
 have := commas_len (l.map Plc.text) 250 (fun x hx => by
  obtain ⟨p,hp,rfl⟩ := List.mem_map.1 hx
  exact Plc.text_len p (h.2 p hp))
 have h4 := h.1
 rw [List.length_map] at this
 have : l.length * 252 <= 4 * 252 := Nat.mul_le_mul_right _ h4
 unfold plcsT; omega
theorem ixR_len {x : Idx} (h : ixR x) : x.text.length <= 117 := by
 have := Idx.text_len x h.1
 have := h.2
 omega
theorem gateW_len (n : Nat) : (gateW.getD n []).length <= 4 := by
 match n with
 | 0 | 1 | 2 | 3 | 4 | 5 | 6 | 7 | 8 | 9 | 10 | 11 => decide
 | n + 12 => simp [gateW]
theorem headT_len {k g : Int} {nm : List Nat} {pl : List Plc} {size to : Idx} (h : headR k g nm pl size to) : (headT k g nm pl size to).length <= 1100 := by
 obtain ⟨h0,h1,h2,h3,h4,h5⟩ := h
 have hk : k = 1 \/ k = 2 \/ k = 3 \/ k = 4 \/ k = 5 \/ k = 6 \/ k = 7 \/ k = 8 \/ k = 9 \/ k = 10 \/ k = 11 := by omega
 rcases hk with rfl | rfl | rfl | rfl | rfl | rfl | rfl | rfl | rfl | rfl | rfl
 ·have := plcsT_len (h3 (by simp)); have := gateW_len (g - 1).toNat; simp [headT]; simp at this; omega
 ·have := ixR_len (h4 (by simp)); have := h2 (by simp); simp [headT]; omega
 ·have := h2 (by simp); simp [headT]; omega
 ·have := ixR_len (h4 (by simp)); have := h2 (by simp); simp [headT]; omega
 ·have := plcsT_len (h3 (by simp)); have := h2 (by simp); simp [headT]; omega
 ·have := plcsT_len (h3 (by simp)); simp [headT]; omega
 ·have := h2 (by simp); simp [headT]; omega
 ·have := ixR_len (h4 (by simp)); have := ixR_len (h5 rfl); have := h2 (by simp); simp [headT]; omega
 ·have := plcsT_len (h3 (by simp)); have := h2 (by simp); simp [headT]; omega
 ·simp [headT]
 ·simp [headT]
theorem betweenT_len (k : Int) : (betweenT k).length <= 5 := by unfold betweenT; split <;> simp
theorem linesT_len (D : Nat) (l : List Stp) : ∀ b,Stp.Rs l -> b.length + 2 * Stp.deeps l <= D -> (linesT l b).length <= Stp.cnts l * (3 * D + 1200) := by
 refine Stp.lists (P := fun l => ∀ b,Stp.Rs l -> b.length + 2 * Stp.deeps l <= D -> (linesT l b).length <= Stp.cnts l * (3 * D + 1200)) (fun l ih b hR hD => ?_) l
 induction l with
 | nil => simp [linesT]
 | cons s l ihl =>
  have hs := ih s (by simp)
  have h2 := ihl (fun y hy => ih y (by simp [hy])) hR.2 (by simp only [Stp.deeps] at hD; omega)
  obtain ⟨k,g,nm,cp,pl,size,to,cb,body,ce,els⟩ := s
  obtain ⟨hh,hb,he⟩ := hR.1
  have hl := headT_len hh
  have hbt := betweenT_len k
  simp only [Stp.deeps,Stp.deep] at hD
  simp only [Stp.body,Stp.els] at hs
  simp only [linesT,lineT,List.length_append,Stp.cnts,Stp.cnt,Nat.add_mul,Nat.one_mul]
  have hbl : (b ++ bl2).length = b.length + 2 := by simp [bl2]
  cases hk : hasBody k with
  | false =>
   have hke : hasElse k = false := by
    simp only [hasBody,hasElse,decide_eq_false_iff_not] at hk ⊢; omega
   simp [hk,hke]; omega
  | true =>
   simp only [hk,if_true] at hD
   have h3 := hs.1 (b ++ bl2) (hb hk) (by rw [hbl]; omega)
   cases hke : hasElse k with
   | false => simp [hk,hke]; omega
   | true =>
    simp only [hke,if_true] at hD
    have h4 := hs.2 (b ++ bl2) (he hke) (by rw [hbl]; omega)
    simp only [hk,hke,if_true]
    by_cases hx : k = 7 /\ els.length = 0
    ·rw [if_neg (by simp),if_neg (by simp [hx])]; simp; omega
    ·rw [if_neg (by simp),if_pos ⟨trivial,hx⟩]; simp; omega
end Go.Abs
set_option maxRecDepth 100000
set_option maxHeartbeats 8000000
namespace Go.Abs.Tz
open Go.Abs
theorem first_zero {α : Type} {f : α -> Int} {l : List α} (h : first f l = 0) : ∀ x ∈ l,f x = 0 := by
 induction l with
 | nil => intro x hx; cases hx
 | cons a l ih =>
  simp only [first] at h
  split at h
  ·contradiction
  ·rename_i h0
   intro x hx
   rcases List.mem_cons.1 hx with rfl | hx
   ·simpa using h0
   ·exact ih h x hx
theorem err_R {L : Look} (hL : Named L) {x : Idx} (h : x.err (mayOf L) 1 = 0) : ixR x := by
 unfold Idx.err at h
 split at h
 ·cases h
 ·rename_i h9
  refine ⟨Idx.part_shp (no := 1) (by decide) (fun s hs => hL s ?_) x h,by omega⟩
  simp only [mayOf,decide_eq_true_eq] at hs
  rw [hs]; exact fun h => by cases h
theorem placeE_R {L : Look} (hL : Named L) {p : Plc} (h : placeE L p = 0) : p.Shp := by
 unfold placeE at h
 split at h
 ·cases h
 ·rename_i h1
  split at h
  ·cases h
  ·rename_i h2
   refine ⟨hL _ fun he => h1 (by rw [he]; rfl),by omega,fun x hx => ?_⟩
   have := err_R hL (first_zero h x hx)
   exact this
theorem newE_len {L : Look} {s : List Nat} (h : newE L s = 0) : s.length <= 8 := namedB_len (newE_zero h).1
def Before (ps : List Prc) (own : Nat) : Prop := ∀ n q,n < own -> ps[n]? = some q -> q.name.length <= 8 /\ q.pars.length <= 4
theorem procN_some {ps : List Prc} {s : List Nat} {n : Nat} (h : procN ps s = some n) : ∃ q,ps[n]? = some q /\ q.name = s := by
 rw [procN,List.findIdx?_eq_some_iff_getElem] at h
 obtain ⟨h1,h2,_⟩ := h
 exact ⟨ps[n],List.getElem?_eq_getElem h1,by simpa using h2⟩
theorem stepE_R {ps : List Prc} {own : Nat} {L : Look} (hL : Named L) (hb : Before ps own) {k g : Int} {nm : List Nat} {cp : Cap} {pl : List Plc} {size to : Idx} {cb ce : Cap} {body els : List Stp}
  (h : stepE ps own L (.mk k g nm cp pl size to cb body ce els) = 0) : headR k g nm pl size to := by
 have hpl : first (placeE L) pl = 0 -> pl.length <= 4 -> plR pl := fun h1 h2 => ⟨h2,fun p hp => placeE_R hL (first_zero h1 p hp)⟩
 simp only [stepE] at h
 split at h
 ·rename_i hk; subst hk
  split at h
  ·cases h
  ·rename_i hg
   split at h
   ·cases h
   ·rename_i ha
    have : arityN g <= 3 := by unfold arityN; split <;> (try split) <;> omega
    refine ⟨by omega,fun _ => by omega,by omega,fun _ => hpl h (by omega),by omega,by omega⟩
 ·rename_i hk1
  split at h
  ·rename_i hk
   split at h
   ·contradiction
   ·rename_i hn
    have hn' : newE L nm = 0 := by simpa using hn
    have := newE_len hn'
    exact ⟨by omega,by omega,fun _ => this,by omega,fun _ => err_R hL h,by omega⟩
  ·rename_i hk2
   split at h
   ·rename_i hk; subst hk
    split at h
    ·contradiction
    ·rename_i hn
     have hn' : newE L nm = 0 := by simpa using hn
     have := newE_len hn'
     split at h
     ·contradiction
     ·rename_i hs
      exact ⟨by omega,by omega,fun _ => this,by omega,fun _ => err_R hL (by simpa using hs),fun _ => err_R hL h⟩
   ·rename_i hk8
    split at h
    ·rename_i hk; subst hk
     refine ⟨by omega,by omega,fun _ => hL nm fun he => ?_,by omega,by omega,by omega⟩
     rw [he] at h; cases h
    ·rename_i hk3
     split at h
     ·rename_i hk; subst hk
      split at h
      ·rename_i p
       split at h
       ·contradiction
       ·rename_i hp
        have hp' : placeE L p = 0 := by simpa using hp
        refine ⟨by omega,by omega,fun _ => ?_,fun _ => ⟨by simp,fun q hq => ?_⟩,by omega,by omega⟩
        ·split at h
         ·rename_i hbit; exact hL nm (by rw [hbit]; exact fun h => by cases h)
         ·exact newE_len h
        ·simp at hq; subst hq; exact placeE_R hL hp'
      ·cases h
     ·rename_i hk5
      split at h
      ·rename_i hk; subst hk
       split at h
       ·rename_i p
        refine ⟨by omega,by omega,by omega,fun _ => ⟨by simp,fun q hq => ?_⟩,by omega,by omega⟩
        simp at hq; subst hq; exact placeE_R hL h
       ·cases h
      ·rename_i hk6
       split at h
       ·rename_i hk; subst hk
        refine ⟨by omega,by omega,fun _ => hL nm fun he => ?_,by omega,by omega,by omega⟩
        rw [he] at h; simp at h
       ·rename_i hk7
        split at h
        ·rename_i hk; subst hk
         split at h
         ·cases h
         ·rename_i n hn
          split at h
          ·cases h
          ·rename_i hlt
           obtain ⟨q,hq,hqn⟩ := procN_some hn
           rw [hq] at h
           have := hb n q (by omega) hq
           dsimp only at h
           split at h
           ·cases h
           ·rename_i hl
            refine ⟨by omega,by omega,fun _ => by rw [<- hqn]; exact this.1,fun _ => hpl h (by omega),by omega,by omega⟩
        ·split at h
         ·rename_i hk9 hk
          refine ⟨by omega,by omega,by omega,by omega,by omega,by omega⟩
         ·cases h
theorem stepE_newE {ps : List Prc} {own : Nat} {L : Look} {x : Stp} (h : stepE ps own L x = 0) (hk : x.kind = 2 \/ x.kind = 4 \/ x.kind = 8) : newE L x.name = 0 := by
 rw [stepE_eq] at h
 rcases hk with hk | hk | hk <;> simp [hk] at h <;> split at h <;> first | assumption | (rename_i hn; exact absurd h hn)
theorem inside_named {ps : List Prc} {own : Nat} {L : Look} (hL : Named L) {x : Stp} (h : stepE ps own L x = 0) : Named (inside L x.kind x.name) := by
 by_cases h4 : x.kind = 4
 ·have : inside L x.kind x.name = L.inner.put x.name (.reg false) := by simp [inside,h4]
  rw [this]; exact hL.inner.put (newE_len (stepE_newE h (by omega))) _
 by_cases h8 : x.kind = 8
 ·have : inside L x.kind x.name = L.inner.put x.name .turn := by simp [inside,h8]
  rw [this]; exact hL.inner.put (newE_len (stepE_newE h (by omega))) _
 ·have : inside L x.kind x.name = L.inner := by simp [inside,h4,h8]
  rw [this]; exact hL.inner
theorem after_named {ps : List Prc} {own : Nat} {L : Look} (hL : Named L) {x : Stp} (h : stepE ps own L x = 0) : Named (after L x.kind x.name) := by
 by_cases h2 : x.kind = 2
 ·have : after L x.kind x.name = L.put x.name (.reg true) := by simp [after,h2]
  rw [this]; exact hL.put (newE_len (stepE_newE h (by omega))) _
 by_cases h3 : x.kind = 3
 ·have : after L x.kind x.name = L.put x.name .none := by simp [after,h3]
  rw [this]; exact hL.del _
 by_cases h5 : x.kind = 5
 ·have : after L x.kind x.name = L.put x.name .bit := by simp [after,h5]
  rw [this]
  refine hL.put ?_ _
  rw [stepE_eq] at h
  simp [h5] at h
  split at h
  ·split at h
   ·split at h
    ·rename_i hbit; exact hL _ (by rw [hbit]; exact fun h => by cases h)
    ·exact newE_len h
   ·contradiction
  ·cases h
 ·have : after L x.kind x.name = L := by simp [after,h2,h3,h5]
  rw [this]; exact hL
theorem blkE_R {ps : List Prc} {own : Nat} (hb : Before ps own) (l : List Stp) : ∀ L,Named L -> blkE ps own l L = 0 -> Stp.Rs l := by
 refine Stp.lists (P := fun l => ∀ L,Named L -> blkE ps own l L = 0 -> Stp.Rs l) (fun l ih L hL h => ?_) l
 induction l generalizing L with
 | nil => trivial
 | cons s l ihl =>
  simp only [blkE] at h
  split at h
  ·contradiction
  ·rename_i h0
   have h0' : stepE ps own L s = 0 := by simpa using h0
   split at h
   ·contradiction
   ·rename_i h1
    have h1' : inE ps own s L = 0 := by simpa using h1
    refine ⟨?_,ihl (fun y hy => ih y (by simp [hy])) _ (after_named hL h0') h⟩
    have hi := inside_named hL h0'
    have hs := ih s (by simp)
    obtain ⟨k,g,nm,cp,pl,size,to,cb,body,ce,els⟩ := s
    simp only [Stp.body,Stp.els] at hs
    simp only [Stp.kind,Stp.name] at hi
    refine ⟨stepE_R hL hb h0',fun hk => ?_,fun hk => ?_⟩
    ·simp only [inE,hk,if_true] at h1'
     split at h1'
     ·contradiction
     ·rename_i h2; exact hs.1 _ hi (by simpa using h2)
    ·have hkb : hasBody k = true := by simp only [hasBody,hasElse,decide_eq_true_eq] at hk ⊢; omega
     simp only [inE,hk,hkb,if_true] at h1'
     split at h1'
     ·contradiction
     ·exact hs.2 _ hi h1'
structure PrcR (x : Prc) : Prop where
 name : x.name.length <= 8
 pars : x.pars.length <= 4
 par : ∀ p ∈ x.pars,p.name.length <= 8 /\ 1 <= p.size /\ p.size <= 12
 body : Stp.Rs x.body
 cnts : Stp.cnts x.body <= 120
 deeps : Stp.deeps x.body <= 6
theorem parsE_R (l : List Par) : ∀ L,Named L -> parsE l L = 0 -> (∀ p ∈ l,p.name.length <= 8 /\ 1 <= p.size /\ p.size <= 12) /\ Named (parsL l L) := by
 induction l with
 | nil => intro L hL _; exact ⟨fun p hp => (by cases hp),hL⟩
 | cons x l ih =>
  intro L hL h
  simp only [parsE] at h
  split at h
  ·cases h
  ·rename_i h1
   split at h
   ·cases h
   ·rename_i h2
    split at h
    ·cases h
    ·have hn : x.name.length <= 8 := namedB_len (by simpa using h1)
     obtain ⟨a,b⟩ := ih _ (hL.put hn _) h
     refine ⟨fun p hp => ?_,b⟩
     rcases List.mem_cons.1 hp with rfl | hp
     ·exact ⟨hn,by omega⟩
     ·exact a p hp
theorem noL_named : Named noL := fun _ h => absurd rfl h
theorem procE_R {ps : List Prc} {own : Nat} {x : Prc} (hb : Before ps own) (h : procE ps own x = 0) : PrcR x := by
 unfold procE at h
 split at h
 ·cases h
 ·rename_i h1
  split at h
  ·cases h
  ·split at h
   ·cases h
   ·rename_i h3
    split at h
    ·contradiction
    ·rename_i h4
     split at h
     ·cases h
     ·rename_i h5
      split at h
      ·cases h
      ·rename_i h6
       obtain ⟨a,b⟩ := parsE_R x.pars noL noL_named (by simpa using h4)
       exact ⟨namedB_len (by simpa using h1),by omega,a,blkE_R hb _ _ b h,by omega,by omega⟩
theorem progsE_R (ps : List Prc) : ∀ k,Before ps k -> progsE ps k (ps.drop k) = 0 -> ∀ n q,k <= n -> ps[n]? = some q -> PrcR q := by
 intro k
 induction hd : ps.length - k generalizing k with
 | zero =>
  intro _ _ n q hn hq
  rw [List.getElem?_eq_none (by omega)] at hq; cases hq
 | succ d ih =>
  intro hb h n q hn hq
  have hk : k < ps.length := by omega
  rw [List.drop_eq_getElem_cons hk] at h
  simp only [progsE] at h
  split at h
  ·contradiction
  ·rename_i h0
   have hr := procE_R hb (by simpa using h0)
   rcases Nat.lt_or_ge k n with hlt | hge
   ·refine ih (k + 1) (by omega) (fun m q' hm hq' => ?_) h n q hlt hq
    rcases Nat.lt_or_ge m k with h2 | h2
    ·exact hb m q' h2 hq'
    ·have : m = k := by omega
     subst this
     rw [List.getElem?_eq_getElem hk] at hq'; cases hq'
     exact ⟨hr.name,hr.pars⟩
   ·have : n = k := by omega
    subst this
    rw [List.getElem?_eq_getElem hk] at hq; cases hq
    exact hr
theorem checkE_R {ps : List Prc} (h : checkE ps = 0) : ps.length <= 12 /\ ∀ q ∈ ps,PrcR q := by
 unfold checkE at h
 split at h
 ·cases h
 ·rename_i h1
  refine ⟨by omega,fun q hq => ?_⟩
  obtain ⟨n,hn,rfl⟩ := List.getElem_of_mem hq
  exact progsE_R ps 0 (fun n q hn => by omega) (by simpa using h) n _ (by omega) (List.getElem?_eq_getElem hn)
theorem Prc.text_len {x : Prc} (h : PrcR x) : x.text.length <= 200000 := by
 have h1 := linesT_len 20 x.body bl2 h.body (by have := h.deeps; simp [bl2]; omega)
 have h2 : Stp.cnts x.body * (3 * 20 + 1200) <= 120 * (3 * 20 + 1200) := Nat.mul_le_mul_right _ h.cnts
 have h3 := commas_len (x.pars.map Par.text) 12 (fun t ht => by
  obtain ⟨p,hp,rfl⟩ := List.mem_map.1 ht
  have := (h.par p hp).1
  have := dec2_len p.size.toNat
  simp [Par.text]; omega)
 rw [List.length_map] at h3
 have h4 : x.pars.length * (12 + 2) <= 4 * (12 + 2) := Nat.mul_le_mul_right _ h.pars
 have := h.name
 simp only [Prc.text,List.length_append,List.length_cons,List.length_nil]
 omega
theorem Idx.copy_kind (x : Idx) : x.copy.kind = x.kind := by cases x; rfl
theorem Idx.copy_part (may : List Nat -> Bool) (no : Int) (x : Idx) : x.copy.part may no = x.part may no := by
 refine Idx.ind' (Q := fun x => x.copy.part may no = x.part may no) (fun k n s c l ih => ?_) x
 have : Idx.parts may no (copies l) = Idx.parts may no l := by
  clear c
  induction l with
  | nil => rfl
  | cons a l ih2 => simp only [copies,Idx.parts,ih a (by simp),ih2 fun y hy => ih y (by simp [hy])]
 simp only [Idx.copy,Idx.part,copies_len,this]
theorem Idx.copy_err (may : List Nat -> Bool) (no : Int) (x : Idx) : x.copy.err may no = x.err may no := by
 simp only [Idx.err,copy_cnt,Idx.copy_part]
theorem Idx.copy_text (x : Idx) : x.copy.text = x.text := by
 refine Idx.ind' (Q := fun x => x.copy.text = x.text) (fun k n s c l ih => ?_) x
 have h1 : Idx.texts (copies l) = Idx.texts l := by
  clear c
  induction l with
  | nil => rfl
  | cons a l ih2 => simp only [copies,Idx.texts,ih a (by simp),ih2 fun y hy => ih y (by simp [hy])]
 have h2 : (copies l).map Idx.kind = l.map Idx.kind := by
  rw [copies_eq,List.map_map]; exact List.map_congr_left fun y _ => Idx.copy_kind y
 simp only [Idx.copy,Idx.text,h1,h2]
theorem Plc.copy_text (p : Plc) : p.copy.text = p.text := by
 obtain ⟨nm,c,ix⟩ := p
 match ix with
 | [] => rfl
 | [a] => simp [Plc.copy,Plc.text,copies,Idx.copy_text]
 | a :: b :: l => simp [Plc.copy,Plc.text,copies,Idx.copy_text]
theorem Plc.copy_E (L : Look) (p : Plc) : placeE L p.copy = placeE L p := by
 have : first (Idx.err (mayOf L) 1) (copies p.ix) = first (Idx.err (mayOf L) 1) p.ix := by
  induction p.ix with
  | nil => rfl
  | cons a l ih => simp only [copies,first,Idx.copy_err,ih]
 simp only [placeE,Plc.copy,copies_len,this]
theorem first_map {α β : Type} (f : β -> Int) (h : α -> β) (l : List α) : first f (l.map h) = first (fun x => f (h x)) l := by
 induction l with
 | nil => rfl
 | cons a l ih => simp only [List.map_cons,first,ih]
theorem plcs_copy_E (L : Look) (l : List Plc) : first (placeE L) (l.map Plc.copy) = first (placeE L) l := by
 rw [first_map]; exact first_congr fun x _ => Plc.copy_E L x
theorem procN_copy (ps : List Prc) (s : List Nat) : procN (pcopies ps) s = procN ps s := by
 simp only [procN,pcopies,List.findIdx?_map]
 rfl
theorem stepE_copy (ps : List Prc) (own : Nat) (L : Look) (x : Stp) : stepE (pcopies ps) own L x.copy = stepE ps own L x := by
 obtain ⟨k,g,nm,cp,pl,size,to,cb,body,ce,els⟩ := x
 have h9 : ∀ n : Nat,(pcopies ps)[n]? = (ps[n]?).map Prc.copy := fun n => by simp [pcopies]
 simp only [Stp.copy,stepE,procN_copy,Idx.copy_err,plcs_copy_E,List.length_map,h9]
 by_cases k9 : k = 9
 ·subst k9
  simp only [show ¬ (9 : Int) = 1 by decide,show ¬ ((9 : Int) = 2 \/ (9 : Int) = 4) by decide,show ¬ (9 : Int) = 8 by decide,show ¬ (9 : Int) = 3 by decide,show ¬ (9 : Int) = 5 by decide,show ¬ (9 : Int) = 6 by decide,show ¬ (9 : Int) = 7 by decide,if_false,if_true]
  cases procN ps nm with
  | none => rfl
  | some n =>
   cases hq : ps[n]? with
   | none => simp [hq]
   | some q => simp [hq,Prc.copy]
 ·simp only [k9,if_false]
  rcases pl with _ | ⟨p,_ | ⟨q,rest⟩⟩
  ·rfl
  ·simp only [List.map_cons,List.map_nil,Plc.copy_E]
  ·simp only [List.map_cons,List.length_cons]
theorem kind_copy (x : Stp) : x.copy.kind = x.kind := by cases x; rfl
theorem name_copy (x : Stp) : x.copy.name = x.name := by cases x; rfl
theorem blkE_copy (ps : List Prc) (own : Nat) (l : List Stp) : ∀ L,blkE (pcopies ps) own (scopies l) L = blkE ps own l L := by
 refine Stp.lists (P := fun l => ∀ L,blkE (pcopies ps) own (scopies l) L = blkE ps own l L) (fun l ih L => ?_) l
 induction l generalizing L with
 | nil => rfl
 | cons s l ihl =>
  have h1 := ihl (fun y hy => ih y (by simp [hy]))
  have hs := ih s (by simp)
  have h2 : inE (pcopies ps) own s.copy L = inE ps own s L := by
   obtain ⟨k,g,nm,cp,pl,size,to,cb,body,ce,els⟩ := s
   simp only [Stp.body,Stp.els] at hs
   simp only [Stp.copy,inE,hs.1,hs.2]
  simp only [scopies,blkE,stepE_copy,h2,kind_copy,name_copy,h1]
theorem cnts_copy (l : List Stp) : Stp.cnts (scopies l) = Stp.cnts l /\ Stp.deeps (scopies l) = Stp.deeps l := by
 refine Stp.lists (P := fun l => Stp.cnts (scopies l) = Stp.cnts l /\ Stp.deeps (scopies l) = Stp.deeps l) (fun l ih => ?_) l
 induction l with
 | nil => exact ⟨rfl,rfl⟩
 | cons s l ihl =>
  have h1 := ihl (fun y hy => ih y (by simp [hy]))
  have hs := ih s (by simp)
  obtain ⟨k,g,nm,cp,pl,size,to,cb,body,ce,els⟩ := s
  simp only [Stp.body,Stp.els] at hs
  simp only [scopies,Stp.cnts,Stp.deeps,Stp.copy,Stp.cnt,Stp.deep,hs.1.1,hs.1.2,hs.2.1,hs.2.2,h1.1,h1.2,and_self]
theorem plcsT_copy (l : List Plc) : plcsT (l.map Plc.copy) = plcsT l := by
 simp only [plcsT,List.map_map]
 congr 1
 exact List.map_congr_left fun x _ => Plc.copy_text x
theorem linesT_copy (l : List Stp) : ∀ b,linesT (scopies l) b = linesT l b := by
 refine Stp.lists (P := fun l => ∀ b,linesT (scopies l) b = linesT l b) (fun l ih b => ?_) l
 induction l with
 | nil => rfl
 | cons s l ihl =>
  have h1 := ihl (fun y hy => ih y (by simp [hy]))
  have hs := ih s (by simp)
  obtain ⟨k,g,nm,cp,pl,size,to,cb,body,ce,els⟩ := s
  simp only [Stp.body,Stp.els] at hs
  simp only [scopies,linesT,Stp.copy,lineT,headT,plcsT_copy,Idx.copy_text,hs.1,hs.2,h1,scopies_len]
theorem procE_copy (ps : List Prc) (own : Nat) (x : Prc) : procE (pcopies ps) own x.copy = procE ps own x := by
 have h1 : ((pcopies ps).take own).any (fun p => p.name == x.copy.name) = (ps.take own).any (fun p => p.name == x.name) := by
  simp only [pcopies,<- List.map_take,List.any_map]
  rfl
 simp only [procE,h1]
 simp only [Prc.copy,(cnts_copy x.body).1,(cnts_copy x.body).2,blkE_copy]
theorem progsE_copy (ps : List Prc) (l : List Prc) : ∀ k,progsE (pcopies ps) k (pcopies l) = progsE ps k l := by
 induction l with
 | nil => intro k; rfl
 | cons a l ih =>
  intro k
  have := ih (k + 1)
  simp only [pcopies] at this
  simp only [pcopies,List.map_cons,progsE]
  have h := procE_copy ps k a
  simp only [pcopies] at h
  rw [h,this]
theorem checkE_copy (ps : List Prc) : checkE (pcopies ps) = checkE ps := by
 have := progsE_copy ps ps 0
 simp only [checkE,this]
 simp only [pcopies,List.length_map]
theorem prcsT_copy (ps : List Prc) : prcsT (pcopies ps) = prcsT ps := by
 induction ps with
 | nil => rfl
 | cons a l ih =>
  simp only [pcopies] at ih
  simp only [pcopies,List.map_cons,prcsT,ih]
  simp only [Prc.text,Prc.copy,linesT_copy]
end Go.Abs.Tz
