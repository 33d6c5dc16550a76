import Derived.Test.YtiigojkfojnedaaGreatDoorQKg
set_option linter.unusedVariables false
set_option linter.unusedSimpArgs false
set_option linter.unusedSectionVars false
set_option maxRecDepth 100000
set_option maxHeartbeats 8000000
open Nat renaming le_refl->bF
open List renaming getElem?_eq_getElem->dr,map_cons->ay,map_nil->aA,length_set->fj,nil_append->cI,append_nil->dW,getElem?_eq_none->gZ,length->nr,set_append_left->lL,mem_singleton->kX,mem_cons->dO,drop_drop->vn,take_succ_cons->rE,length_take->mf,take_of_length_le->dY,any_cons->ahX,any_nil->ahY
open Bool renaming or_false->ahZ
namespace Go.ah
open Tz (ku)
structure PS where
 last:Nat
 l:List Tok
inductive R (α:Type)
 |ok (x:α) (s:PS)
 |no (w:Nat)
inductive RS
 |r (s:PS)
 |w (w:Nat)
def R.bind{α β:Type}:R α->(α->PS->R β)->R β
 | .ok x s,f=>f x s
 | .no w,_=> .no w
def R.map{α β:Type}(f:α->β):R α->R β
 | .ok x s=> .ok (f x) s
 | .no w=> .no w
theorem R.bind_map{α β γ:Type}(a:R α)(Q:α->PS->R β)(f:β->γ):(a.bind Q).map f=a.bind fun x s=>(Q x s).map f:=by cases a<;>rfl
def Θ{α:Type}(P:PS->R α)(a:RS)(x:α)(b:RS):Prop:=
 match a with
 | .w w=>b= .w w
 | .r s=>match P s with
  | .ok y t=>x=y/\b= .r t
  | .no w=>b= .w w
def PS.hd(s:PS):List Nat:=match s.l with
 |[]=>[]
 |t::_=>t.text
def PS.kd(s:PS):Nat:=match s.l with
 |[]=>0
 |t::_=>t.kind
def PS.aB(s:PS)(w:List Nat):Bool:=s.hd==w
def PS.at_(e:Nat)(s:PS):Nat:=match s.l with
 |[]=>e
 |t::_=>t.at_
def gR(e:Nat)(f:Tok->Bool)(s:PS):R (List Nat):=match s.l with
 |[]=> .no e
 |t::l=>if t.kind=0\/f t=false then .no t.at_ else if 0<=t.cZ then .no t.cZ.toNat else .ok t.text ⟨t.at_+t.text.length,l⟩
def aw(e:Nat)(w:List Nat):PS->R (List Nat):=gR e fun t=>t.text==w
def fN(e:Nat):PS->R (List Nat):=gR e fun t=>t.kind==1&& !ku t.text
def numOf(s:List Nat):Nat:=s.foldl (fun n b=>10*n+(b-48)) 0
def sH(e:Nat)(s:PS):R Nat:=(gR e (fun t=>t.kind==2) s).map numOf
def cw{α:Type}(c:PS->Bool)(f:α->PS->R α):Nat->α->PS->R α
 |0,_,_=> .no 0
 |n+1,x,s=>if c s then(f x s).bind (cw c f n)else .ok x s
def z0:η:= .mk 0 0 [] .nil []
def lj(e:Nat)(ix:PS->R η)(s:PS):R η:=
 if s.aB [40]then(aw e [40] s).bind fun _ s=>(ix s).bind fun x s=>(aw e [41] s).map fun _=>x
 else if s.kd=2 then(sH e s).map fun n:Nat=> .mk 1 (n:Int) [] .nil []
 else(fN e s).map fun n=> .mk 2 0 n .nil []
def tY(e:Nat)(at':PS->R η)(s:PS):R η:=
 (at' s).bind fun x s=>cw (fun s=>s.aB [42]) (fun x s=>(aw e [42] s).bind fun _ s=>(at' s).map fun y=> .mk 5 0 [] .any [x,y]) (s.l.length+1) x s
def AB(e:Nat)(pr:PS->R η)(s:PS):R η:=
 (pr s).bind fun x s=>cw (fun s=>s.aB [43]||s.aB [45]) (fun x s=>(aw e s.hd s).bind fun w s=>(pr s).map fun y=> .mk (if w=[45]then 4 else 3) 0 [] .any [x,y]) (s.l.length+1) x s
def au(e:Nat):Nat->PS->R η
 |0=>fun _=> .no 0
 |k+1=>AB e (tY e (lj e (au e k)))
def gP(e:Nat)(ix:PS->R η)(s:PS):R Γ:=
 (fN e s).bind fun n s=>
  if s.aB [91]then(aw e [91] s).bind fun _ s=>(ix s).bind fun x s=>(if s.aB [58]then(aw e [58] s).bind fun _ s=>(ix s).map fun y=>[x,y]else .ok [x] s).bind fun l s=>(aw e [93] s).map fun _=>⟨n,.any,l⟩
  else .ok ⟨n,.nil,[]⟩ s
def sP(e:Nat)(ix:PS->R η)(s:PS):R (List Nat×η):=
 (fN e s).bind fun n s=>(aw e [91] s).bind fun _ s=>(ix s).bind fun x s=>(aw e [93] s).map fun _=>(n,x)
inductive Sp
 |mk (from_ to:Nat) (ins:List (List Sp))
def Φ{α:Type}:List α->χ
 |[]=> .nil
 |_=> .any
def lY{α:Type}(e:Nat)(item:PS->R α)(s:PS):R (List α):=
 if s.aB [41]then(aw e [41] s).map fun _=>[]
 else(item s).bind fun x s=>(cw (fun s=>s.aB [44]) (fun l s=>(aw e [44] s).bind fun _ s=>(item s).map fun y=>l++[y]) (s.l.length+1) [x] s).bind fun l s=>(aw e [41] s).map fun _=>l
def eP(s:List Nat):Nat:=match bu.findIdx? fun x=>x==s with
 |none=>0
 |some i=>i+1
def lF(e:Nat)(pl:PS->R Γ):Nat->List Γ->PS->R (List Γ)
 |0,l,s=> .ok l s
 |n+1,l,s=>(aw e [44] s).bind fun _ s=>(pl s).bind fun p s=>lF e pl n (l++[p]) s
def jZ(e:Nat)(ix:PS->R η)(s:PS):R δ:=
 let w:=s.hd
 let pl:=gP e ix
 if 0<eP w then(aw e w s).bind fun _ s=>(pl s).bind fun p s=>(lF e pl (gS (eP w)-1) [p] s).map fun l=> .mk 1 (eP w) [] .any l z0 z0 .nil [] .nil []
 else if w=[116,97,107,101]then(aw e w s).bind fun _ s=>(sP e ix s).map fun x=> .mk 2 0 x.1 .nil [] x.2 z0 .nil [] .nil []
 else if w=[100,114,111,112]then(aw e w s).bind fun _ s=>(fN e s).map fun n=> .mk 3 0 n .nil [] z0 z0 .nil [] .nil []
 else if w=[109,101,97,115,117,114,101]then(aw e w s).bind fun _ s=>(pl s).bind fun p s=>(aw e [58] s).bind fun _ s=>(fN e s).map fun n=> .mk 5 0 n .any [p] z0 z0 .nil [] .nil []
 else if w=[114,101,115,101,116]then(aw e w s).bind fun _ s=>(pl s).map fun p=> .mk 6 0 [] .any [p] z0 z0 .nil [] .nil []
 else(fN e s).bind fun n s=>(aw e [40] s).bind fun _ s=>(lY e pl s).map fun l=> .mk 9 0 n (Φ l) l z0 z0 .nil [] .nil []
def Av(e:Nat)(ix:PS->R η)(s:PS):R δ:=(jZ e ix s).bind fun x s=>(aw e [59] s).map fun _=>x
def gF(e:Nat)(ix:PS->R η)(blk:PS->R (List δ×List Sp))(s:PS):R (δ×List (List Sp)):=
 let w:=s.hd
 if w=[98,111,114,114,111,119]then(aw e w s).bind fun _ s=>(sP e ix s).bind fun x s=>(blk s).map fun b=>(.mk 4 0 x.1 .nil [] x.2 z0 (Φ b.1) b.1 .nil [],[b.2])
 else if w=[105,102]then(aw e w s).bind fun _ s=>(fN e s).bind fun n s=>(blk s).bind fun b s=>
  if s.aB [101,108,115,101]then(aw e [101,108,115,101] s).bind fun _ s=>(blk s).map fun d=>(.mk 7 0 n .nil [] z0 z0 (Φ b.1) b.1 (Φ d.1) d.1,[b.2,d.2])
  else .ok (.mk 7 0 n .nil [] z0 z0 (Φ b.1) b.1 .nil [],[b.2]) s
 else if w=[102,111,114]then(aw e w s).bind fun _ s=>(fN e s).bind fun n s=>(aw e [61] s).bind fun _ s=>(ix s).bind fun x s=>(aw e [58] s).bind fun _ s=>(ix s).bind fun y s=>(blk s).map fun b=>(.mk 8 0 n .nil [] x y (Φ b.1) b.1 .nil [],[b.2])
 else if w=[117,110,100,111]then(aw e w s).bind fun _ s=>(blk s).map fun b=>(.mk 10 0 [] .nil [] z0 z0 (Φ b.1) b.1 .nil [],[b.2])
 else if w=[119,105,116,104,105,110]then(aw e w s).bind fun _ s=>(blk s).bind fun b s=>(aw e [97,112,112,108,121] s).bind fun _ s=>(blk s).map fun d=>(.mk 11 0 [] .nil [] z0 z0 (Φ b.1) b.1 (Φ d.1) d.1,[b.2,d.2])
 else(Av e ix s).map fun x=>(x,[])
def t_(e:Nat)(st:PS->R (δ×List (List Sp)))(s:PS):R (δ×Sp):=(st s).bind fun x t=> .ok (x.1,.mk (s.at_ e) t.last x.2) t
def yl(e:Nat)(st:PS->R (δ×List (List Sp)))(s:PS):R (List δ×List Sp):=
 (aw e [123] s).bind fun _ s=>(cw (fun s=>!s.aB [125]) (fun l s=>(t_ e st s).map fun x=>(l.1++[x.1],l.2++[x.2])) (s.l.length+1) ([],[]) s).bind fun l s=>(aw e [125] s).map fun _=>l
def bT(e:Nat)(ix:PS->R η):Nat->PS->R (List δ×List Sp)
 |0=>fun _=> .no 0
 |k+1=>yl e (gF e ix (bT e ix k))
def ri(e:Nat)(s:PS):R aI:=(fN e s).bind fun n s=>(aw e [91] s).bind fun _ s=>(sH e s).bind fun k s=>(aw e [93] s).map fun _=>⟨n,k⟩
def u5(e:Nat)(blk:PS->R (List δ×List Sp))(s:PS):R (Ξ×List Sp):=
 (aw e [112,114,111,99] s).bind fun _ s=>(fN e s).bind fun n s=>(aw e [40] s).bind fun _ s=>(lY e (ri e) s).bind fun ps s=>(blk s).map fun b=>(⟨n,Φ ps,ps,Φ b.1,b.1⟩,b.2)
def u6(e:Nat)(ts:List Tok):R (List Ξ×List (List Sp)):=
 cw (fun s=>!s.l.isEmpty) (fun l s=>(u5 e (bT e (au e (ts.length+1)) (ts.length+1)) s).map fun x=>(l.1++[x.1],l.2++[x.2])) (ts.length+1) ([],[]) ⟨0,ts⟩
theorem Θ.bind{α β:Type}{P:PS->R α}{Q:α->PS->R β}{a b c:RS}{x:α}{y:β}(h:Θ P a x b)(k:Θ (Q x) b y c):Θ (fun s=>(P s).bind Q) a y c:=by
 cases a with
 |w w=>
  simp only[Θ]at h
  subst h;exact k
 |r s=>
  simp only[Θ]at h⊢
  cases hp:P s with
  |ok z t=>
   rw[hp]at h
   obtain⟨rfl,rfl⟩:=h;exact k
  |no w=>
   rw[hp]at h
   subst h;exact k
theorem Θ.map{α β:Type}{P:PS->R α}{a b:RS}{x:α}(f:α->β)(h:Θ P a x b):Θ (fun s=>(P s).map f) a (f x) b:=by
 cases a with
 |w w=>exact h
 |r s=>
  simp only[Θ]at h⊢
  cases hp:P s with
  |ok z t=>
   rw[hp]at h
   obtain⟨rfl,rfl⟩:=h;exact⟨rfl,rfl⟩
  |no w=>rw[hp]at h;exact h
theorem Θ.pure{α:Type}(x:α)(a:RS):Θ (fun s=> .ok x s) a x a:=by
 cases a with
 |w w=>rfl
 |r s=>exact⟨rfl,rfl⟩
def RS.sz(a:RS):Nat:=match a with
 | .r s=>s.l.length
 | .w _=>0
def RS.rM(c:PS->Bool)(a:RS):Bool:=match a with
 | .r s=>c s
 | .w _=>false
def RS.aB(a:RS)(w:List Nat):Bool:=a.rM fun s=>s.aB w
theorem jD{a:RS}{w:List Nat}(h:a.aB w=true)(hw:w≠[]):0<a.sz:=by
 cases a with
 |w w=>cases h
 |r st=>
  obtain⟨la,l⟩:=st
  cases l with
  |nil=>exact absurd (beq_iff_eq.1 (show(PS.hd ⟨la,[]⟩==w)=true from h)).symm hw
  |cons t l=>simp[RS.sz]
theorem Θ.uX{α:Type}{c:PS->Bool}{f:α->PS->R α}{n:Nat}{x:α}{a:RS}(h:a.rM c=false):Θ (cw c f (n+1) x) a x a:=by
 cases a with
 |w w=>rfl
 |r s=>
  have h:c s=false:=h
  simp[Θ,cw,h]
theorem Θ.uY{α:Type}{c:PS->Bool}{f:α->PS->R α}{n:Nat}{x x' y:α}{a a' b:RS}(hc:a.rM c=true)(h:Θ (f x) a x' a')(k:Θ (cw c f n x') a' y b):Θ (cw c f (n+1) x) a y b:=by
 cases a with
 |w w=>cases hc
 |r s=>
  have hc:c s=true:=hc
  have e:∀s',c s'=true->cw c f (n+1) x s'=(f x s').bind (cw c f n):=fun s' h=>by simp[cw,h]
  have:=Θ.bind (P:=f x) (Q:=cw c f n) h k;simpa only[Θ,e s hc]using this
theorem Θ.fuel{α:Type}{c:PS->Bool}{f:α->PS->R α}{x y:α}{a b:RS}(h:Θ (cw c f (a.sz+1) x) a y b):Θ (fun s=>cw c f (s.l.length+1) x s) a y b:=by
 cases a with
 |w w=>exact h
 |r s=>exact h
theorem Θ.as{α:Type}{P Q:PS->R α}{a b:RS}{x:α}(h:Θ P a x b)(k:∀s,a= .r s->Q s=P s):Θ Q a x b:=by
 cases a with
 |w w=>exact h
 |r s=>simp only[Θ]at h⊢;rw[k s rfl];exact h
def cT{α:Type}(P:PS->R α):Prop:=∀s x t,P s= .ok x t->t.l.length<=s.l.length
theorem Θ.sz{α:Type}{P:PS->R α}{a b:RS}{x:α}(h:Θ P a x b)(k:cT P):b.sz<=a.sz:=by
 cases a with
 |w w=>simp only[Θ]at h;subst h;simp[RS.sz]
 |r s=>
  simp only[Θ]at h
  cases hp:P s with
  |ok y t=>rw[hp]at h;obtain⟨_,rfl⟩:=h;exact k _ _ _ hp
  |no w=>rw[hp]at h;subst h;simp[RS.sz]
theorem H5{e:Nat}{f:Tok->Bool}{s:PS}{x:List Nat}{t:PS}(h:gR e f s= .ok x t):t.l.length+1=s.l.length:=by
 obtain⟨la,l⟩:=s;cases l with
 |nil=>cases h
 |cons a l=>
  simp only[gR]at h
  split at h
  ·cases h
  ·split at h
   ·cases h
   ·cases h;rfl
def RS.hd(a:RS):List Nat:=match a with
 | .r s=>s.hd
 | .w _=>[]
theorem agk{e:Nat}{f:Tok->Bool}{s:PS}{x:List Nat}{t:PS}(h:gR e f s= .ok x t):x=s.hd:=by
 obtain⟨la,l⟩:=s;cases l with
 |nil=>cases h
 |cons a l=>
  simp only[gR]at h
  split at h
  ·cases h
  ·split at h
   ·cases h
   ·cases h;rfl
theorem Θ.word{β:Type}{e:Nat}{f:Tok->Bool}{Q:List Nat->PS->R β}{a b c:RS}{x:List Nat}{y:β}(h:Θ (gR e f) a x b)(k:Θ (Q a.hd) b y c):Θ (fun s=>(gR e f s).bind Q) a y c:=by
 cases a with
 |w w=>simp only[Θ]at h;subst h;exact k
 |r s=>
  simp only[Θ]at h⊢
  cases hp:gR e f s with
  |ok z t=>
   rw[hp]at h
   obtain⟨rfl,rfl⟩:=h;rw[agk hp];exact k
  |no w=>rw[hp]at h;subst h;exact k
theorem Θ.take{e:Nat}{f:Tok->Bool}{a b:RS}{x:List Nat}(h:Θ (gR e f) a x b)(ha:0<a.sz):b.sz<a.sz:=by
 cases a with
 |w w=>simp[RS.sz]at ha
 |r s=>
  simp only[Θ]at h
  cases hp:gR e f s with
  |ok y t=>rw[hp]at h;obtain⟨_,rfl⟩:=h;have:=H5 hp;simp only[RS.sz];omega
  |no w=>rw[hp]at h;subst h;exact ha
theorem cT.take(e:Nat)(f:Tok->Bool):cT (gR e f):=fun _ _ _ h=>by have:=H5 h;omega
theorem cT.bind{α β:Type}{P:PS->R α}{Q:α->PS->R β}(h:cT P)(k:∀x,cT (Q x)):cT fun s=>(P s).bind Q:=fun s y t e=>by
 have e:(P s).bind Q= .ok y t:=e;cases hp:P s with
 |ok x s'=>
  rw[hp]at e
  have:=h _ _ _ hp;have:=k x _ _ _ e;omega
 |no w=>rw[hp]at e;cases e
theorem cT.map{α β:Type}{P:PS->R α}{f:α->β}(h:cT P):cT fun s=>(P s).map f:=fun s y t e=>by
 have e:(P s).map f= .ok y t:=e;cases hp:P s with
 |ok x s'=>rw[hp]at e;cases e;exact h _ _ _ hp
 |no w=>rw[hp]at e;cases e
theorem cT.ok{α:Type}(x:α):cT fun s=> .ok x s:=fun s y t e=>by cases e;exact bF _
theorem cT.ite{α:Type}{c:PS->Prop}[∀s,Decidable (c s)]{P Q:PS->R α}(h:cT P)(k:cT Q):cT fun s=>if c s then P s else Q s:=fun s y t e=>by
 dsimp only at e;split at e
 ·exact h _ _ _ e
 ·exact k _ _ _ e
theorem cT.loop{α:Type}{c:PS->Bool}{f:α->PS->R α}(h:∀x,cT (f x)):∀n x,cT (cw c f n x):=by
 intro n;induction n with
 |zero=>intro x s y t e;cases e
 |succ n ih=>intro x;exact .ite ((h x).bind ih) (.ok x)
theorem cT.Hu{α:Type}{c:PS->Bool}{f:α->PS->R α}(h:∀x,cT (f x))(x:α):cT fun s=>cw c f (s.l.length+1) x s:=fun s=>cT.loop h _ x s
theorem cr(e:Nat)(w:List Nat):cT (aw e w):= .take _ _
theorem jb(e:Nat):cT (fN e):= .take _ _
theorem Ee(e:Nat):cT (sH e):= .map (.take _ _)
theorem Bu(e:Nat){ix:PS->R η}(h:cT ix):cT (lj e ix):=
 .ite ((cr e _).bind fun _=>h.bind fun _=>(cr e _).map) (.ite (Ee e).map (jb e).map)
theorem Jp(e:Nat){at':PS->R η}(h:cT at'):cT (tY e at'):=h.bind fun x=> .Hu (fun x=>(cr e _).bind fun _=>h.map) x
theorem WL(e:Nat){pr:PS->R η}(h:cT pr):cT (AB e pr):=h.bind fun x=> .Hu (fun x s y t k=>((cr e s.hd).bind fun _=>h.map) s y t k) x
theorem e_(e k:Nat):cT (au e k):=by
 induction k with
 |zero=>intro s x t h;cases h
 |succ k ih=>exact WL e (Jp e (Bu e ih))
theorem Ef(e:Nat){ix:PS->R η}(h:cT ix):cT (gP e ix):=
 (jb e).bind fun _=> .ite ((cr e _).bind fun _=>h.bind fun _=>(cT.ite ((cr e _).bind fun _=>h.map) (.ok _)).bind fun _=>(cr e _).map) (.ok _)
theorem Bv(e:Nat){ix:PS->R η}(h:cT ix):cT (sP e ix):=(jb e).bind fun _=>(cr e _).bind fun _=>h.bind fun _=>(cr e _).map
end Go.ah
namespace Go.ah.Tz
open Go.ah
variable{u:Nat}
attribute [local simp] exec ed dP eX aC dQ ft eL ζ gg τ fW gy gH gI lf AV.cells newVar gE rd wr fK single eV bY ek dF μ aY RV.get aV dB iE
def iN(u:Nat){α:Type}(Rel:List AV->RS->Prop)(f:FuncId)(args:List AV)(P:PS->R α)(E:α->AV->Prop)(a:RS):Prop:=
 ∀(B:List κ) (p:Nat) (cs:List AV),p<B.length->Rel cs a->∃v x ξ b,(∀T,aU (C u) (.fn (.func f) [] []) (.ν p 0::args) {ε:=B.set p (.cells cs),θ:=T}=some (v,{ε:=B.set p (.cells ξ),θ:=T}))/\Rel ξ b/\Θ P a x b/\E x v
def LO(l:List Tok):Nat:=match l.getLast? with
 |some t=>t.at_+t.text.length
 |none=>0
structure _root_.Go.ah.Tok.Ok (t:Tok):Prop where
 str:cX t.text
 ne:t.text≠[]
 cZ:0<=t.cZ->t.kind<=2/\∀w∈[[40],[41],[91],[93],[123],[125],[44],[59],[58],[61],[43],[45],[42]]++fR,t.text≠w
 zero:t.kind=0->t.cZ=t.at_
 pos:t.at_+t.text.length<4000000000
 num:t.kind=2->t.cZ<0->t.text.length<=2/\∀b∈t.text,dx b=true
section
variable(s:List Nat)(all:List Tok)(c:χ)
def cE(item:AV)(cs:List AV)(a:RS):Prop:=
 ∃(k:Nat) (wr:Int),cs=[.str s,.list c (all.map Tok.ba),.int .i64 k,.int .i64 wr,item]/\k<=all.length/\match a with
  | .r st=>wr= -1/\all.drop k=st.l/\LO (all.take k)=st.last
  | .w w=>wr=(w:Int)
variable{s all c}{item:AV}
theorem LY{l:List Tok}{k:Nat}{t:Tok}{r:List Tok}(h:l.drop k=t::r):k<l.length/\l[k]?=some t/\l.drop (k+1)=r:=by
 have hk:k<l.length:=by
  rcases Nat.lt_or_ge k l.length with h1|h1
  ·exact h1
  ·rw[List.drop_eq_nil_of_le h1]at h;cases h
 rw[List.drop_eq_getElem_cons hk]at h;injection h with h1 h2
 exact⟨hk,by rw[dr hk,h1],h2⟩
def pZ(s:List Nat)(all:List Tok)(k:Nat):Tok:=match all[k]? with
 |some t=>t
 |none=>⟨s.length,0,[],-1⟩
theorem f291(B:List κ)(p:Nat)(hp:p<B.length)(k:Nat)(wr:Int)(T:List Nat)(hl:all.length<1000000000):
  kf u 291 [.ν p 0] {ε:=B.set p (.cells [.str s,.list c (all.map Tok.ba),.int .i64 k,.int .i64 wr,item]),θ:=T}=some ((pZ s all k).ba,{ε:=B.set p (.cells [.str s,.list c (all.map Tok.ba),.int .i64 k,.int .i64 wr,item]),θ:=T}):=by
 refine bD (g:=F_) rfl rfl rfl ?_;have hg:∀cs,(B.set p (κ.cells cs))[p]?=some (.cells cs):=fun cs=>by simp[hp]
 simp only[ay,aA,exp,fj,hp,if_true,F_,OY];unfold pZ;cases hk:all[k]? with
 |some t=>
  have ρ:=oX hk
  have dq:(k:Int)<all.length:=by omega
  have wa:all[k]=t:=by rw[dr ρ]at hk;simpa using hk
  simp[aR,hg,ρ,dq,wa,Tok.ba];rfl
 |none=>
  have cG:=List.getElem?_eq_none_iff.1 hk
  have dq:¬k<all.length:=by omega
  simp[aR,hg,dq,cF,Tok.ba];rfl
theorem Wr{C:iM}{f:FuncId}{fst args cap:List AV}{m:Mem}:aU C (.fn (.func f) fst cap) args m=aU C (.fn (.func f) [] []) (fst++args++cap) m:=by
 apply Option.ext;intro r;rw[qD,qD];have:∀k,cv C k (.fn (.func f) fst cap) args m=cv C k (.fn (.func f) [] []) (fst++args++cap) m:=fun k=>by
  cases k with
  |zero=>rfl
  |succ k=>simp only[cv,body,cI,dW]
 simp only[this]
theorem Sl{l:List Tok}{k:Nat}{t:Tok}(h:l[k]?=some t):LO (l.take (k+1))=t.at_+t.text.length:=by rw[List.take_add_one,h];simp[LO]
def Tx(all:List Tok)(f:Tok->Bool)(x:List Nat):Prop:=x=[]\/∃t∈all,x=t.text/\f t=true/\t.cZ<0
theorem Tx.str{f:Tok->Bool}{x:List Nat}(ab:∀t∈all,t.Ok)(h:Tx all f x):cX x:=by
 rcases h with rfl|⟨t,ht,rfl,_⟩
 ·exact fun b hb=>by cases hb
 ·exact(ab t ht).str
theorem f265{fv:AV}{f:Tok->Bool}{B:List κ}{p:Nat}{cs:List AV}{a:RS}(hp:p<B.length)(hl:all.length<1000000000)(ab:∀t∈all,t.Ok)(hx:exp B.length false fv=fv)
  (hf:∀t∈all,∀T,aU (C u) fv [t.ba] {ε:=B.set p (.cells cs),θ:=T}=some (.bool (f t),{ε:=B.set p (.cells cs),θ:=T})) (h:cE s all c item cs a):
  ∃x ξ b,(∀T,kf u 265 [.ν p 0,fv] {ε:=B.set p (.cells cs),θ:=T}=some (.str x,{ε:=B.set p (.cells ξ),θ:=T}))/\cE s all c item ξ b/\Θ (gR s.length f) a x b/\Tx all f x:=by
 obtain⟨k,wr,rfl,hk,h⟩:=h;have hg:∀cs,(B.set p (κ.cells cs))[p]?=some (.cells cs):=fun cs=>by simp[hp]
 have lI:∀T,aU (C u) (.fn (.func 291) [.ν p 0] []) [] {ε:=B.set p (.cells [.str s,.list c (all.map Tok.ba),.int .i64 k,.int .i64 wr,item]),θ:=T}=_:=fun T=>(Wr (C:=C u)).trans (f291 (item:=item) (s:=s) (c:=c) B p hp k wr T hl);have go:∀(x:List Nat) (k':Nat) (M3:Int),(μ (C u).gl (aU (C u)) IL {env:=[.ν p 0,fv],loc:=[],mem:= {ε:=B.set p (.cells [.str s,.list c (all.map Tok.ba),.int .i64 k,.int .i64 wr,item]),θ:=[]}} fun r=>(∀i,r.1≠ .exit i)/\r.2.mem= {ε:=B.set p (.cells [.str s,.list c (all.map Tok.ba),.int .i64 k',.int .i64 M3,item]),θ:=[]}/\ζ r.2.env 4= .str x)→
   ∀T,kf u 265 [.ν p 0,fv] {ε:=B.set p (.cells [.str s,.list c (all.map Tok.ba),.int .i64 k,.int .i64 wr,item]),θ:=T}=some (.str x,{ε:=B.set p (.cells [.str s,.list c (all.map Tok.ba),.int .i64 k',.int .i64 M3,item]),θ:=T}):=by
  intro x k' M3 hr T;refine lE (g:=FT) rfl rfl rfl (by simp) ?_;have dL:([]++[AV.ν p 0,fv]++[]).map (exp (B.set p (κ.cells [.str s,.list c (all.map Tok.ba),.int .i64 k,.int .i64 wr,item])).length false)=[AV.ν p 0,fv]:=by simp[exp,hp,hx]
  rw[dL];exact hr.mono fun r ⟨h1,h2,h3⟩=>⟨h1,⟨[],by rw[h2,dW]⟩,[.str x],by simp[FT,h3],rfl⟩
 unfold IL at go;have Ci:Tx all f []:= .inl rfl;have zS:pZ s all k=match a with
   | .r ⟨_,[]⟩=>⟨s.length,0,[],-1⟩
   | .r ⟨_,t::_⟩=>t
   | .w _=>pZ s all k:=by
  cases a with
  |w w=>rfl
  |r st=>
   obtain⟨la,l⟩:=st
   cases l with
   |nil=>
    have:all[k]?=none:=gZ (by have:=congrArg nr h.2.1;simp at this;omega)
    simp[pZ,this]
   |cons t l=>simp[pZ,(LY h.2.1).2.1]
 cases a with
 |w w=>
  have hw:0<=wr:=by rw[h];omega
  refine⟨[],_,.w w,go [] k wr ?_,⟨k,wr,rfl,hk,h⟩,rfl,Ci⟩;simp[aR,lI,hg,Tok.ba,hw]
 |r st=>
  obtain⟨rfl,h1,h2⟩:=h
  obtain⟨la,l⟩:=st;dsimp only at h1 h2;cases l with
  |nil=>
   simp only at zS
   rw[zS]at lI;refine⟨[],_,.w s.length,go [] k s.length ?_,⟨k,s.length,rfl,hk,rfl⟩,rfl,Ci⟩;simp[aR,lI,hg,Tok.ba,Mem.put,Mem.φ,φ,bp,lo]
  |cons t l=>
   simp only at zS
   rw[zS]at lI;obtain⟨ρ,wa,uF⟩:=LY h1;have ca:t∈all:=List.mem_of_getElem? wa;have hf:=hf t ca;have pS:=ab t ca;simp only[Tok.ba]at hf;by_cases hz:t.kind=0
   ·have sy:((t.kind:Int)==0)=true:=beq_iff_eq.2 (by omega);refine⟨[],_,.w t.at_,go [] k t.at_ ?_,⟨k,t.at_,rfl,hk,rfl⟩,by simp[Θ,gR,hz],Ci⟩;simp[aR,lI,hg,Tok.ba,Mem.put,Mem.φ,φ,bp,lo,sy]
   have sy:((t.kind:Int)==0)=false:=beq_eq_false_iff_ne.2 (by omega);cases zN:f t with
   |false=>
    rw[zN]at hf
    refine⟨[],_,.w t.at_,go [] k t.at_ ?_,⟨k,t.at_,rfl,hk,rfl⟩,by simp[Θ,gR,zN],Ci⟩;simp[aR,lI,hg,Tok.ba,Mem.put,Mem.φ,φ,bp,lo,sy,hf]
   |true=>
    rw[zN]at hf
    by_cases hw:0<=t.cZ
    ·refine⟨[],_,.w t.cZ.toNat,go [] k t.cZ ?_,⟨k,t.cZ,rfl,hk,by omega⟩,by simp[Θ,gR,zN,hw,hz],Ci⟩;simp[aR,lI,hg,Tok.ba,Mem.put,Mem.φ,φ,bp,lo,sy,hf,hw]
    ·have cV:IntKind.wrap .i64 ((k:Int)+1)=(k:Int)+1:=wrap_i64 (by omega) (by omega);refine⟨t.text,_,.r ⟨t.at_+t.text.length,l⟩,go t.text (k+1) (-1) ?_,⟨k+1,-1,rfl,by omega,rfl,uF,Sl wa⟩,by simp[Θ,gR,zN,hw,hz],.inr ⟨t,ca,rfl,zN,by omega⟩⟩;simp[aR,lI,hg,Tok.ba,Mem.put,Mem.φ,φ,bp,lo,sy,hf,hw,cV]
theorem f266{B:List κ}{i:Nat}{w:List Nat}(h:B[i]?=some (.cells [.str w]))(t:Tok)(T:List Nat):aU (C u) (.fn (.func 266) [] [.ν i 0]) [t.ba] {ε:=B,θ:=T}=some (.bool (t.text==w),{ε:=B,θ:=T}):=by
 refine rN (g:=FU) rfl rfl rfl ?_;have hi:=oX h;have dL:([]++[t.ba]++[AV.ν i 0]).map (exp B.length false)=[t.ba,.ν i 0]:=by simp[Tok.ba,exp,bn,hi]
 dsimp only;rw[dL];clear hi;by_cases hw:t.text=w<;>simp[FU,ON,Tok.ba,aR,h,hw]
def Eu{α:Type}:α->AV->Prop:=fun _ v=>v= .aP []
theorem f226(w:List Nat)(hl:all.length<1000000000)(ab:∀t∈all,t.Ok)(a:RS):iN u (cE s all c item) 226 [.str w] (aw s.length w) Eu a:=by
 intro B p cs hp h;have e0:∀cs,(B++[κ.cells [.str w]]).set p (.cells cs)=B.set p (.cells cs)++[.cells [.str w]]:=fun cs=>lL _ _ hp;obtain⟨x,ξ,b,h1,h2,h3,h4⟩:=f265 (u:=u) (fv:= .fn (.func 266) [] [.ν B.length 0]) (f:=fun t=>t.text==w) (B:=B++[.cells [.str w]]) (p:=p) (cs:=cs) (by simp;omega) hl ab
  (by simp[exp,bn,Fn.below]) (fun t _ T=>f266 (by rw[e0];simp) t T) h
 refine⟨.aP [],x,ξ,b,fun T=>?_,h2,h3,rfl⟩;simp only[e0]at h1;refine lE (g:=Fw) rfl rfl rfl (by simp) ?_;simp[exp,hp,Fw,c226,Mem.push,Mem.φ,φ,h1];rfl
theorem LZ{k:Nat}{st:PS}(h:all.drop k=st.l):(pZ s all k).text=st.hd/\(pZ s all k).kind=st.kd/\(pZ s all k).at_=st.at_ s.length:=by
 obtain⟨la,l⟩:=st;cases l with
 |nil=>
  have:all[k]?=none:=gZ (by have:=congrArg nr h;simp at this;omega)
  simp[pZ,this,PS.hd,PS.kd,PS.at_]
 |cons t l=>simp[pZ,(LY h).2.1,PS.hd,PS.kd,PS.at_]
theorem f268(ws:List (List Nat))(Cy:ws.length<1000000000)(hl:all.length<1000000000){B:List κ}{p:Nat}{cs:List AV}{a:RS}(hp:p<B.length)(h:cE s all c item cs a)(T:List Nat):
  kf u 268 [.ν p 0,.list .full (ws.map AV.str)] {ε:=B.set p (.cells cs),θ:=T}=some (.bool (ws.any fun w=>a.aB w),{ε:=B.set p (.cells cs),θ:=T}):=by
 obtain⟨k,wr,rfl,hk,h⟩:=h;have hg:∀cs,(B.set p (κ.cells cs))[p]?=some (.cells cs):=fun cs=>by simp[hp]
 have lI:=fun T=>f291 (u:=u) (item:=item) (s:=s) (c:=c) B p hp k wr T hl;have HV:=fun t m=>f65 (u:=u) .any (.inr rfl) ws t (by omega) m;refine bD (g:=BF) rfl rfl rfl ?_;have dL:[AV.ν p 0,.list .full (ws.map AV.str)].map (exp (B.set p (κ.cells [.str s,.list c (all.map Tok.ba),.int .i64 k,.int .i64 wr,item])).length false)=[AV.ν p 0,nj .any ws]:=by simp[exp,fo,hp,nj,χ.exp,Function.comp]
 dsimp only at dL⊢;rw[dL];cases a with
 |w w=>
  have hw:¬wr<0:=by omega
  simp[BF,IM,hg,hw,RS.aB,RS.rM]
 |r st=>
  obtain⟨rfl,h1,h2⟩:=h
  have e1:=(LZ (s:=s) h1).1;simp only[Tok.ba,e1]at lI;have e2:(ws.any fun w=>(RS.r st).aB w)=ws.contains st.hd:=by simp only[RS.aB,RS.rM,PS.aB,List.any_beq]
  simp[BF,IM,hg,lI,HV,e2]
theorem f267(t:Tok)(m:Mem):kf u 267 [t.ba] m=some (.bool (t.kind==1&& !ku t.text),m):=by
 have g0:(C u).gl 0= .ref [nj .any bu]:=rfl;have g1:(C u).gl 1= .ref [nj .any fH]:=rfl;have HV:=fun ws h t m=>f65 (u:=u) .any (.inr rfl) ws h t m;have hw:ku t.text=(fH.contains t.text||bu.contains t.text):=by simp[ku,fR,List.contains_eq_any_beq]
 refine rN (g:=zw) rfl rfl rfl ?_;have dL:([]++[t.ba]++[]).map (exp m.ε.length false)=[t.ba]:=by simp[Tok.ba,exp,bn]
 rw[dL];have qg:=fun m=>HV bu t.text (by decide) m;have qk:=fun m=>HV fH t.text (by decide) m;by_cases hk:t.kind=1
 ·have da:((t.kind:Int)==1)=true:=beq_iff_eq.2 (by omega);rw[hw,hk];cases hg:bu.contains t.text with
  |true=>rw[hg]at qg;simp[zw,DT,Tok.ba,aR,da,g0,g1,qg]
  |false=>
   rw[hg]at qg
   simp[zw,DT,Tok.ba,aR,da,g0,g1,qg,qk]
 ·have da:((t.kind:Int)==1)=false:=beq_eq_false_iff_ne.2 (by omega);have eF:(t.kind==1)=false:=beq_eq_false_iff_ne.2 hk;simp[zw,DT,Tok.ba,aR,da,eF]
def Es:List Nat->AV->Prop:=fun x v=>v= .str x/\cX x
theorem f227(hl:all.length<1000000000)(ab:∀t∈all,t.Ok)(a:RS):iN u (cE s all c item) 227 [] (fN s.length) Es a:=by intro B p cs hp h;obtain⟨x,ξ,b,h1,h2,h3,h4⟩:=f265 (u:=u) (fv:= .fn (.func 267) [] []) (f:=fun t=>t.kind==1&& !ku t.text) (B:=B) (p:=p) (cs:=cs) hp hl ab (by simp[exp,bn,Fn.below]) (fun t _ T=>f267 t _) h;refine⟨.str x,x,ξ,b,fun T=>?_,h2,h3,rfl,h4.str ab⟩;refine lE (g:=Fy) rfl rfl rfl (by simp) ?_;simp[exp,hp,Fy,c227,h1];rfl
theorem f270(t:Tok)(m:Mem):kf u 270 [t.ba] m=some (.bool (t.kind==2),m):=by
 refine rN (g:=BG) rfl rfl rfl ?_;have dL:([]++[t.ba]++[]).map (exp m.ε.length false)=[t.ba]:=by simp[Tok.ba,exp,bn]
 rw[dL];by_cases hk:t.kind=2
 ·simp[BG,IN,Tok.ba,aR,hk]
 ·have da:((t.kind:Int)==2)=false:=beq_eq_false_iff_ne.2 (by omega);have eF:(t.kind==2)=false:=beq_eq_false_iff_ne.2 hk;simp[BG,IN,Tok.ba,aR,da,eF]
def En:Nat->AV->Prop:=fun x v=>v= .int .i64 x/\x<100
theorem SM{t:Tok}(h:t.Ok)(hk:t.kind=2)(hw:t.cZ<0):yq 0 t.text=some (numOf t.text)/\numOf t.text<100/\∃b r,t.text=b::r/\r.length<=17/\dx b=true:=by
 obtain⟨h1,h2⟩:=h.num hk hw;have h3:=h.ne;generalize t.text=x at*
 match x,h1,h2,h3 with
 |[a],_,h2,_=>
  have:=h2 a (by simp)
  have hd:=Bi this;exact⟨by simp[yq,numOf,hd],by simp[numOf];omega,a,[],rfl,by simp,this⟩
 |[a,b],_,h2,_=>
  have h4:=h2 a (by simp)
  have hd:=Bi h4;have r_:=Bi (h2 b (by simp));exact⟨by simp[yq,numOf,hd,r_];omega,by simp[numOf];omega,a,[b],rfl,by simp,h4⟩
theorem f230(hl:all.length<1000000000)(ab:∀t∈all,t.Ok)(a:RS):iN u (cE s all c item) 230 [] (sH s.length) En a:=by
 intro B p cs hp h;obtain⟨x,ξ,b,h1,h2,h3,h4⟩:=f265 (u:=u) (fv:= .fn (.func 270) [] []) (f:=fun t=>t.kind==2) (B:=B) (p:=p) (cs:=cs) hp hl ab (by simp[exp,bn,Fn.below]) (fun t _ T=>f270 t _) h;have hx:∃e,(∀m,kf u 269 [.str x] m=some (.aP [.int .i64 (numOf x),e],m))/\numOf x<100:=by
  rcases h4 with rfl|⟨t,ht,rfl,hf,hw⟩
  ·exact⟨_,fun m=>Am (p:=tW 350) (by rfl) (by simp[exp,tW,numOf];rfl),by decide⟩
  ·obtain⟨k1,k2,b,r,k3,k4,k5⟩:=SM (ab t ht) (by simpa using hf) hw;exact⟨.fY,fun m=>Am (p:=tW 350) (by rfl) (by rw[k3]at k1⊢;simp[exp,tW,k1,k4,k5]),k2⟩
 obtain⟨e,hx,pV⟩:=hx;refine⟨.int .i64 (numOf x),numOf x,ξ,b,fun T=>?_,h2,h3.map numOf,rfl,pV⟩;refine lE (g:=Fz) rfl rfl rfl (by simp) ?_;simp[exp,hp,Fz,Ow,h1,hx]
end
end Go.ah.Tz
namespace Go.ah
open Tz
theorem agn(k:Nat):∀n (l:List Nat) t,t∈ru k n l->∃m j b r,t=dA m (b::r)/\l.drop j=b::r/\m=n+j:=by
 induction k with
 |zero=>intro n l t h;cases h
 |succ k ih=>
  intro n l t h
  simp only[ru]at h;split at h
  ·cases h
  ·rename_i hl;have ak:∃b r,l.drop (bO false l)=b::r:=by
    cases hr:l.drop (bO false l)with
    |nil=>have:=congrArg nr hr;simp at this;omega
    |cons b r=>exact⟨b,r,rfl⟩
   obtain⟨b,r,hr⟩:=ak;rw[hr]at h;split at h
   ·rw[kX.1 h];exact⟨_,_,b,r,rfl,hr,rfl⟩
   ·rcases dO.1 h with rfl|h
    ·exact⟨_,_,b,r,rfl,hr,rfl⟩
    ·obtain⟨m,j,b',r',h1,h2,h3⟩:=ih _ _ _ h;rw[<-hr]at h2 h3;rw[vn,vn]at h2;exact⟨m,_,b',r',h1,h2,by omega⟩
def xf:List (List Nat):=[[40],[41],[91],[93],[123],[125],[44],[59],[58],[61],[43],[45],[42]]++fR
theorem U0:∀w∈xf,w.length<=8:=by decide
theorem UZ:∀w∈xf,∀b∈w.head?,dx b=false:=by decide
theorem U1:∀w∈xf,∀b∈w.head?,isLet b=true\/b∈eD:=by decide
theorem afw(f:Nat->Bool)(l:List Nat):∀b∈l.take (runN f l),f b=true:=by
 induction l with
 |nil=>simp[runN]
 |cons a l ih=>
  simp only[runN]
  by_cases h:f a=true
  ·rw[if_pos h,rE];intro b hb;rcases dO.1 hb with rfl|hb
   ·exact h
   ·exact ih b hb
  ·rw[if_neg h];simp
theorem Uh(m b:Nat)(r:List Nat)(hs:cX (b::r))(hm:m+(b::r).length<4000000000):(dA m (b::r)).Ok:=by
 have hlen:=MU m (b::r);have jh:=Dn m b r;have fM:(dA m (b::r)).at_=m:=by simp only[dA];(repeat' split)<;>rfl
 have dH:∀k,cX ((b::r).take k):=fun k x hx=>hs x (List.mem_of_mem_take hx);have ak:(dA m (b::r)).text≠[]:=fun h=>by rw[h]at jh;cases jh
 have pR:cX (dA m (b::r)).text:=by
  simp only[dA];split
  ·exact dH _
  ·split
   ·exact dH _
   ·split<;>exact fun x hx=>by rw[kX.1 hx];exact hs b (by simp)
 have GZ:(dA m (b::r)).at_+(dA m (b::r)).text.length<4000000000:=by rw[fM];omega
 refine⟨pR,ak,?_,?_,GZ,?_⟩
 ·simp only[dA];by_cases h1:isLet b=true
  ·rw[if_pos h1];intro hw;refine⟨by simp,fun w ou he=>?_⟩;have h8:=U0 w ou;rw[<-he]at h8;have:=yF isLet (b::r);simp only[mf]at h8;by_cases h:8<runN isLet (b::r)
   ·omega
   ·simp[h]at hw
  ·rw[if_neg h1];by_cases h2:dx b=true
   ·rw[if_pos h2];intro hw;refine⟨by simp,fun w ou he=>?_⟩;have hr:0<runN dx (b::r):=by simp[runN,h2]
    obtain⟨k,hk⟩:∃k,runN dx (b::r)=k+1:=⟨_,(Nat.sub_add_cancel hr).symm⟩;dsimp only at he;rw[hk,rE]at he;have:=UZ w ou b (by rw[<-he];rfl);rw[h2]at this;cases this
   ·rw[if_neg h2];by_cases h3:b∈eD
    ·rw[if_pos h3];intro hw;simp at hw
    ·rw[if_neg h3];intro _;refine⟨by simp,fun w ou he=>?_⟩;rcases U1 w ou b (by rw[<-he];rfl)with h|h
     ·exact h1 h
     ·exact h3 h
 ·simp only[dA];split
  ·intro h;cases h
  ·split
   ·intro h;cases h
   ·split
    ·rename_i h3;intro h;dsimp only at h;rw[h]at h3;exact absurd h3 (by decide)
    ·intro _;rfl
 ·simp only[dA];split
  ·intro h;cases h
  ·split
   ·rename_i h2;intro _ hw;refine⟨?_,afw dx (b::r)⟩;have:=yF dx (b::r);simp only[mf];by_cases ha:1<runN dx (b::r)/\b=48
    ·have hw:(if 1<runN dx (b::r)/\b=48 then(m:Int)+1 else if 2<runN dx (b::r)then(m:Int)+2 else-1)<0:=hw;rw[if_pos ha]at hw;omega
    ·by_cases h:2<runN dx (b::r)
     ·have hw:(if 1<runN dx (b::r)/\b=48 then(m:Int)+1 else if 2<runN dx (b::r)then(m:Int)+2 else-1)<0:=hw;rw[if_neg ha,if_pos h]at hw;omega
     ·omega
   ·split
    ·rename_i h3;intro h;dsimp only at h;rw[h]at h3;exact absurd h3 (by decide)
    ·intro h;cases h
theorem agp{s:List Nat}(hs:cX s)(hl:s.length<4000000000):∀t∈cY s,t.Ok:=by intro t ht;obtain⟨m,j,b,r,rfl,h2,h3⟩:=agn _ _ _ _ ht;have hlen:=congrArg nr h2;simp only[List.length_drop]at hlen;refine Uh m b r (fun x hx=>hs x (List.mem_of_mem_drop (by rw[h2];exact hx))) ?_;simp only[List.length_cons]at*;omega
end Go.ah
namespace Go.ah.Tz
open Go.ah
variable{u:Nat}
attribute [local simp] exec ed dP eX aC dQ ft eL ζ gg τ fW gy gH gI lf AV.cells newVar gE rd wr fK single eV bY ek dF μ aY RV.get aV dB iE
theorem oZ:cX []:=fun b hb=>by cases hb
theorem vd(w:List Nat):shaped false 1 (.str w)=true:=rfl
theorem u2(m:Mem)(w:List Nat):m.φ (.str w)= .str w:=rfl
theorem zm(x:η):x.four.take 4=x.four:=dY (by rw[x.gK];omega)
theorem Au(x:η):shaped true 4 (.agg x.four)=true:=by simp[shaped,x.gK]
theorem Ah(m:Mem)(x:η):m.φ (.agg x.four)= .agg x.four:=by rw[<-η.jA];exact η.nO x
theorem η.fx(x:η):x.Ok->Fx x.av:=by
 refine η.jY (Q:=fun x=>x.Ok->Fx x.av) (fun k n s c l ih h=>?_) x;simp only[η.Ok]at h;have hl:bB (η.Δ l) (η.Δ l):=by rw[η.eo];exact bB.of η.av l fun y hy=>ih y hy (η.gO h.2 y hy)
 have:=Dv.list c hl;rw[fb h.1]at this;exact .agg (.cons (.int _ _) (.cons (.int _ _) (.cons (.str _) (.cons this .nil))))
theorem iD{x:η}(h:x.ey):bB x.four x.four:=by have:=η.fx x h.1;rw[η.jA]at this;exact⟨by simpa only[pf]using this.1,by simpa only[gJ,AV.agg.injEq]using this.2⟩
theorem bB.rb{l ws:List AV}(h:bB l ws)(m:Mem):m.φ (.agg l)= .agg l:=(Dv.agg h).φ
attribute [local simp] vd u2 zm Au Ah η.gK
theorem kG{f:FuncId}{g:AF}{args:List AV}{B:List κ}{p:Nat}{cs ξ:List AV}{v:AV}(h1:(C u).jm f=none)(h2:(C u).fs f=some g)(h3:(C u).bw f=false)(hp:p<B.length)(hx:args.map (exp B.length false)=args)
  (hr:μ (C u).gl (aU (C u)) g.code {env:= .ν p 0::args,loc:=[],mem:= {ε:=B.set p (.cells cs),θ:=[]}} fun r=>(∀i,r.1≠ .exit i)/\(∃bs,r.2.mem= {ε:=B.set p (.cells ξ)++bs,θ:=[]})/\∃l,aY r.2 g.results=some l/\ai r.2.mem.ε B.length 8 (aV l)=v) (T:List Nat):
  aU (C u) (.fn (.func f) [] []) (.ν p 0::args) {ε:=B.set p (.cells cs),θ:=T}=some (v,{ε:=B.set p (.cells ξ),θ:=T}):=by
 refine lE h1 h2 h3 (by simp) ?_;have dL:([]++(AV.ν p 0::args)++[]).map (exp (B.set p (κ.cells cs)).length false)= .ν p 0::args:=by simp only[cI,dW,ay,fj,hx,exp,hp,if_true]
 dsimp only;rw[dL,fj];exact hr
def Ei:η->AV->Prop:=fun x v=>v= .agg x.four/\x.ey
theorem _root_.Go.ah.η.ey.zn{x:η}(h:x.ey)(bs:List κ)(n:Nat):ai bs n 8 (.agg x.four)= .agg x.four:=by rw[<-η.jA];exact η.vH bs n 8 x h.1
theorem Nu(m:Mem){X:List AV}(h:X.length=4)(hn:φ (.agg X)= .agg X):f_ m true 4 56 27 (.list .nil []) (.list .full [.agg X])=some (.list (.own m.ε.length) [.agg X],m.push (.front 1 4 27)):=by simp[f_,shaped,h,Mem.φ,hn]
theorem Nv(D:List κ)(T:List Nat){X Y:List AV}(h:X.length=4)(h':Y.length=4)(hn:φ (.agg Y)= .agg Y):
  f_ {ε:=D++[.front 1 4 27],θ:=T} true 4 56 27 (.list (.own D.length) [.agg X]) (.list .full [.agg Y])=some (.list (.own D.length) [.agg X,.agg Y],{ε:=D++[.front 2 4 27],θ:=T}):=by
 simp[f_,shaped,h,h',Mem.φ,hn,Mem.put]
section
variable{s:List Nat}{all:List Tok}{c:χ}{item:AV}(hl:all.length<1000000000)(ab:∀t∈all,t.Ok)
include hl ab
theorem Sw{B:List κ}{p:Nat}{cs:List AV}{a:RS}(hp:p<B.length)(h:cE s all c item cs a):
  ∃tk:Tok,(∀T,kf u 291 [.ν p 0] {ε:=B.set p (.cells cs),θ:=T}=some (tk.ba,{ε:=B.set p (.cells cs),θ:=T}))/\∀st,a= .r st->tk.text=st.hd/\tk.kind=st.kd/\tk.at_=st.at_ s.length:=by
 obtain⟨k,wr,rfl,hk,h⟩:=h;refine⟨pZ s all k,fun T=>f291 B p hp k wr T hl,fun st ha=>?_⟩;subst ha;exact LZ h.2.1
theorem f315{k:Nat}(ih:∀a:RS,a.sz<k->iN u (cE s all c item) 296 [] (au s.length k) Ei a)(a:RS)(ha:a.sz<k+1):iN u (cE s all c item) 315 [] (lj s.length (au s.length k)) Ei a:=by
 intro B p cs hp h;obtain⟨tk,lI,pL⟩:=Sw (u:=u) hl ab hp h;have df:=fun T=>f268 (u:=u) [[40]] (by decide) hl hp h T;simp only[ay,aA,ahX,ahY,ahZ]at df;simp only[Tok.ba]at lI;cases hb:a.aB [40]with
 |true=>
  rw[hb]at df
  have jh:=jD hb (by simp);obtain⟨_,x1,aX,a1,k1,r1,g1,rfl⟩:=f226 (u:=u) (item:=item) [40] hl ab a B p cs hp h;have ot:=g1.take jh;obtain⟨_,x,aW,a2,k2,r2,g2,rfl,hx⟩:=ih a1 (by omega) B p aX hp r1;obtain⟨_,x3,aQ,a3,k3,r3,g3,rfl⟩:=f226 (u:=u) (item:=item) [41] hl ab a2 B p aW hp r2;refine⟨.agg x.four,x,aQ,a3,kG (g:=vL) rfl rfl rfl hp rfl ?_,r3,?_,rfl,hx⟩
  ·simp[vL,DZ,aR,lI,df,k1,k2,k3];exact hx.zn _ _
  ·refine Θ.as (P:=fun t=>(aw s.length [40] t).bind fun _ t=>(au s.length k t).bind fun x t=>(aw s.length [41] t).map fun _=>x) (g1.bind (g2.bind (g3.map fun _=>x))) fun t ht=>?_;subst ht;exact if_pos hb
 |false=>
  rw[hb]at df
  have eS:∀st,a= .r st->st.aB [40]=false:=fun st hs=>by subst hs;exact hb
  have e0:cX []:=fun b hb=>by cases hb
  by_cases hk:tk.kind=2
  ·obtain⟨_,n,aX,a1,k1,r1,g1,rfl,hn⟩:=f230 (u:=u) (item:=item) hl ab a B p cs hp h;have hx:(η.mk 1 n [] .nil []).ey:=⟨⟨.inl rfl,trivial⟩,e0,trivial⟩;refine⟨.agg (η.mk 1 n [] .nil []).four,_,aX,a1,kG (g:=vL) rfl rfl rfl hp rfl ?_,r1,?_,rfl,hx⟩
   ·have:=hx.zn (B.set p (.cells aX)) B.length;simp only[η.four,η.Δ]at this⊢;have da:((tk.kind:Int)==2)=true:=beq_iff_eq.2 (by omega);simp[vL,DZ,aR,lI,df,k1,da,cF,this]
   ·refine Θ.as (P:=fun t=>(sH s.length t).map fun n:Nat=>η.mk 1 (n:Int) [] .nil []) (g1.map _) fun t ht=>?_;simp[lj,eS t ht,<-(pL t ht).2.1,hk]
  ·obtain⟨_,x,aX,a1,k1,r1,g1,rfl,hn⟩:=f227 (u:=u) (item:=item) hl ab a B p cs hp h;have hx:(η.mk 2 0 x .nil []).ey:=⟨⟨.inl rfl,trivial⟩,hn,trivial⟩;refine⟨.agg (η.mk 2 0 x .nil []).four,_,aX,a1,kG (g:=vL) rfl rfl rfl hp rfl ?_,r1,?_,rfl,hx⟩
   ·have:=hx.zn (B.set p (.cells aX)) B.length;simp only[η.four,η.Δ]at this⊢;have da:((tk.kind:Int)==2)=false:=beq_eq_false_iff_ne.2 (by omega);simp[vL,DZ,aR,lI,df,k1,da,cF,this]
   ·refine Θ.as (P:=fun t=>(fN s.length t).map fun n=>η.mk 2 0 n .nil []) (g1.map _) fun t ht=>?_;simp[lj,eS t ht,<-(pL t ht).2.1,hk]
theorem f308{k:Nat}(ih:∀a:RS,a.sz<k->iN u (cE s all c item) 296 [] (au s.length k) Ei a)(a:RS)(ha:a.sz<k+1):iN u (cE s all c item) 308 [] (tY s.length (lj s.length (au s.length k))) Ei a:=by
 intro B p cs hp h;have C':=fun a ha=>f315 (u:=u) hl ab ih a ha;have jf:=Bu s.length (e_ s.length k);generalize hA:lj s.length (au s.length k)=A at*;obtain⟨_,x1,aX,a1,k1,r1,g1,rfl,kD⟩:=C' a ha B p cs hp h;have ot:=g1.sz jf;let F:η->PS->R η:=fun x t=>(aw s.length [42] t).bind fun _ t=>(A t).map fun y=> .mk 5 0 [] .any [x,y];let cc:PS->Bool:=fun t=>t.aB [42];suffices hm:∃x ξ b,(∀T,kf u 308 [.ν p 0] {ε:=B.set p (.cells cs),θ:=T}=some (.agg x.four,{ε:=B.set p (.cells ξ),θ:=T}))/\cE s all c item ξ b/\Θ (cw cc F (a1.sz+1) x1) a1 x b/\x.ey by obtain⟨x,ξ,b,m1,m2,m3,m4⟩:=hm;exact⟨_,x,ξ,b,m1,m2,g1.bind (Q:=fun x t=>cw cc F (t.l.length+1) x t) m3.fuel,rfl,m4⟩
 have dj:μ (C u).gl (aU (C u)) O4 {env:=[.ν p 0],loc:=[],mem:= {ε:=B.set p (.cells cs),θ:=[]}} fun r=>(∀i,r.1≠ .exit i)/\∃L x ξ b,r.2.mem= {ε:=B.set p (.cells ξ),θ:=[]}/\ζ r.2.env 2= .ae 2 0 0/\τ r.2.loc 2=some (0,.cells L)/\bB L x.four/\cE s all c item ξ b/\Θ (cw cc F (a1.sz+1) x1) a1 x b/\x.ey:=by
  refine ω (fun st=>ζ st.env 0= .ν p 0/\ζ st.env 2= .ae 2 0 0/\(∃z,τ st.loc 2=some (0,.cells z)/\z.length=4)/\τ st.loc 3=none/\st.mem= {ε:=B.set p (.cells cs),θ:=[]}) (by simp[aR]) fun s1 ⟨h1,h2,⟨z,h3,hz⟩,h4,h5⟩=>?_;let I:Nat->St->Prop:=fun i st=>ζ st.env 0= .ν p 0/\ζ st.env 2= .ae 2 0 0/\(∃z,τ st.loc 2=some (0,.cells z)/\z.length=4)/\ζ st.env 3= .ae 3 0 0/\∃L x ξ b,τ st.loc 3=some (0,.cells L)/\st.mem= {ε:=B.set p (.cells ξ),θ:=[]}/\bB L x.four/\cE s all c item ξ b/\x.ey/\b.sz+i<=a1.sz∧
   ∀y b',Θ (cw cc F (a1.sz+1-i) x) b y b'->Θ (cw cc F (a1.sz+1) x1) a1 y b'
  refine ω (I 0) (by
   simp[aR,h1,h2,h3,hz,h4,h5,k1]
   exact⟨by simp[h1],by simp[h2],⟨z,by simp[h3],hz⟩,by simp,x1.four,x1,aX,a1,by simp,rfl,iD kD,r1,kD,bF _,fun _ _ h=>h⟩) fun s1 hI=>?_
  refine bc (fun st=>ζ st.env 2= .ae 2 0 0/\(∃z,τ st.loc 2=some (0,.cells z)/\z.length=4)/\ζ st.env 3= .ae 3 0 0/\∃L x ξ b,τ st.loc 3=some (0,.cells L)/\st.mem= {ε:=B.set p (.cells ξ),θ:=[]}/\bB L x.four/\cE s all c item ξ b/\x.ey/\Θ (cw cc F (a1.sz+1) x1) a1 x b) ?_ fun s2 ⟨h2,⟨z,h3,hz⟩,h4,L,x,ξ,b,h5,h6,hL,h7,h8,h9⟩=>?_
  ·refine μ.block (μ.jt (I:=I) a1.sz hI fun i st hi ψ=>?_);obtain⟨h1,h2,⟨z,h3,hz⟩,h4,L,x,ξ,b,h5,h6,hL,h7,h8,h9,aH⟩:=ψ;have df:=fun T=>f268 (u:=u) [[42]] (by decide) hl hp h7 T;simp only[ay,aA,ahX,ahY,ahZ]at df;unfold Sg;have lT:a1.sz+1-i=(a1.sz-i)+1:=by omega
   rw[lT]at aH;cases hb:b.aB [42]with
   |false=>
    rw[hb]at df
    refine μ.done (.exit 0) (fun st=>ζ st.env 2= .ae 2 0 0/\τ st.loc 2=some (0,.cells z)/\ζ st.env 3= .ae 3 0 0/\τ st.loc 3=some (0,.cells L)/\st.mem= {ε:=B.set p (.cells ξ),θ:=[]}) (by simp[h1,h2,h3,h4,h5,h6,df]) fun s' ⟨m1,m2,m3,m4,m5⟩=> .inr ⟨by simp,.inl ⟨rfl,.inl ⟨rfl,m1,⟨z,m2,hz⟩,m3,L,x,ξ,b,m4,m5,hL,h7,h8,aH x b (Θ.uX hb)⟩⟩⟩
   |true=>
    rw[hb]at df
    have jh:=jD hb (by simp);obtain⟨_,w,aW,b2,k2,r2,g2,rfl⟩:=f226 (u:=u) (item:=item) [42] hl ab b B p ξ hp h7;have lV:=g2.take jh;obtain⟨_,y,aQ,b3,k3,r3,g3,rfl,hy⟩:=C' b2 (by omega) B p aW hp r2;have x7:=g3.sz jf;have hx:(η.mk 5 0 [] .any [x,y]).ey:=⟨⟨.inr rfl,h8.1,hy.1,trivial⟩,oZ,h8.2,hy.2,trivial⟩;have dU:L.length=4:=by rw[hL.len,x.gK]
    have eB:L.take 4=L:=dY (by omega);have eu:shaped true 4 (.agg L)=true:=by simp[shaped,dU]
    have xE:bB [.int .i64 5,.int .i64 0,.str [],.list .full [.agg L,.agg y.four]] (η.mk 5 0 [] .any [x,y]).four:=by simp only[η.four,η.Δ,η.jA];exact .cons (.int _ _) (.cons (.int _ _) (.cons (.str _) (.cons (.list .full (.cons (.agg hL) (.cons (.agg (iD hy)) .nil))) .nil)))
    refine μ.done .normal (fun st=>ζ st.env 0= .ν p 0/\ζ st.env 2= .ae 2 0 0/\τ st.loc 2=some (0,.cells z)/\ζ st.env 3= .ae 3 0 0/\τ st.loc 3=some (0,.cells [.int .i64 5,.int .i64 0,.str [],.list .full [.agg L,.agg y.four]])/\st.mem= {ε:=B.set p (.cells aQ),θ:=[]}) (by simp[h1,h2,h3,h4,h5,h6,df,k2,k3,cF,dm,dy,fm,dU,eB,eu,bB.rb hL]) fun s' ⟨m1,m2,m3,m4,m5,m6⟩=> .inl ⟨rfl,by omega,m1,m2,⟨z,m3,hz⟩,m4,_,_,aQ,b3,m5,m6,xE,r3,hx,by omega,fun y' b' hg=>aH y' b' (Θ.uY hb (g2.bind (g3.map _)) (by rw[show a1.sz+1-(i+1)=a1.sz-i by omega]at hg;exact hg))⟩
  ·have dU:L.length=4:=by rw[hL.len,x.gK]
   have eB:L.take 4=L:=dY (by omega);refine μ.done .ret (fun st=>ζ st.env 2= .ae 2 0 0/\τ st.loc 2=some (0,.cells L)/\st.mem= {ε:=B.set p (.cells ξ),θ:=[]}) (by simp[h2,h3,h4,h5,h6,hz,dU,eB]) fun s' ⟨m1,m2,m3⟩=>⟨by simp,L,x,ξ,b,m3,m1,m2,hL,h7,h9,h8⟩
 obtain⟨r,e1,e2,L,x,ξ,b,e3,e4,e5,hL,e6,e7,e8⟩:=dj;have dU:L.length=4:=by rw[hL.len,x.gK]
 have eB:L.take 4=L:=dY (by omega);exact⟨x,ξ,b,kG (g:=Gf) rfl rfl rfl hp rfl ⟨r,e1,e2,⟨[],by simp[e3]⟩,[.agg L],by simp[Gf,e4,e5,dU,eB],(Dv.agg hL).ai _ _ _⟩,e6,e7,e8⟩
theorem f296{k:Nat}(ih:∀a:RS,a.sz<k->iN u (cE s all c item) 296 [] (au s.length k) Ei a)(a:RS)(ha:a.sz<k+1):iN u (cE s all c item) 296 [] (au s.length (k+1)) Ei a:=by
 intro B p cs hp h;have C':=fun a ha=>f308 (u:=u) hl ab ih a ha;have jf:=Jp s.length (Bu s.length (e_ s.length k));show∃v x ξ b,_/\_/\Θ (AB s.length (tY s.length (lj s.length (au s.length k)))) a x b/\_;generalize hA:tY s.length (lj s.length (au s.length k))=A at*;obtain⟨_,x1,aX,a1,k1,r1,g1,rfl,kD⟩:=C' a ha B p cs hp h;have ot:=g1.sz jf;let F:η->PS->R η:=fun x t=>(aw s.length t.hd t).bind fun w t=>(A t).map fun y=> .mk (if w=[45]then 4 else 3) 0 [] .any [x,y];let cc:PS->Bool:=fun t=>t.aB [43]||t.aB [45];suffices hm:∃x ξ b,(∀T,kf u 296 [.ν p 0] {ε:=B.set p (.cells cs),θ:=T}=some (.agg x.four,{ε:=B.set p (.cells ξ),θ:=T}))/\cE s all c item ξ b/\Θ (cw cc F (a1.sz+1) x1) a1 x b/\x.ey by obtain⟨x,ξ,b,m1,m2,m3,m4⟩:=hm;exact⟨_,x,ξ,b,m1,m2,g1.bind (Q:=fun x t=>cw cc F (t.l.length+1) x t) m3.fuel,rfl,m4⟩
 have dj:μ (C u).gl (aU (C u)) O0 {env:=[.ν p 0],loc:=[],mem:= {ε:=B.set p (.cells cs),θ:=[]}} fun r=>(∀i,r.1≠ .exit i)/\∃L x ξ b,r.2.mem= {ε:=B.set p (.cells ξ),θ:=[]}/\ζ r.2.env 2= .ae 2 0 0/\τ r.2.loc 2=some (0,.cells L)/\bB L x.four/\cE s all c item ξ b/\Θ (cw cc F (a1.sz+1) x1) a1 x b/\x.ey:=by
  refine ω (fun st=>ζ st.env 0= .ν p 0/\ζ st.env 2= .ae 2 0 0/\(∃z,τ st.loc 2=some (0,.cells z)/\z.length=4)/\τ st.loc 3=none/\st.mem= {ε:=B.set p (.cells cs),θ:=[]}) (by simp[aR]) fun s1 ⟨h1,h2,⟨z,h3,hz⟩,h4,h5⟩=>?_;let I:Nat->St->Prop:=fun i st=>ζ st.env 0= .ν p 0/\ζ st.env 2= .ae 2 0 0/\(∃z,τ st.loc 2=some (0,.cells z)/\z.length=4)/\ζ st.env 3= .ae 3 0 0/\∃L x ξ b,τ st.loc 3=some (0,.cells L)/\st.mem= {ε:=B.set p (.cells ξ),θ:=[]}/\bB L x.four/\cE s all c item ξ b/\x.ey/\b.sz+i<=a1.sz∧
   ∀y b',Θ (cw cc F (a1.sz+1-i) x) b y b'->Θ (cw cc F (a1.sz+1) x1) a1 y b'
  refine ω (I 0) (by
   simp[aR,h1,h2,h3,hz,h4,h5,k1]
   exact⟨by simp[h1],by simp[h2],⟨z,by simp[h3],hz⟩,by simp,x1.four,x1,aX,a1,by simp,rfl,iD kD,r1,kD,bF _,fun _ _ h=>h⟩) fun s1 hI=>?_
  refine bc (fun st=>ζ st.env 2= .ae 2 0 0/\(∃z,τ st.loc 2=some (0,.cells z)/\z.length=4)/\ζ st.env 3= .ae 3 0 0/\∃L x ξ b,τ st.loc 3=some (0,.cells L)/\st.mem= {ε:=B.set p (.cells ξ),θ:=[]}/\bB L x.four/\cE s all c item ξ b/\x.ey/\Θ (cw cc F (a1.sz+1) x1) a1 x b) ?_ fun s2 ⟨h2,⟨z,h3,hz⟩,h4,L,x,ξ,b,h5,h6,hL,h7,h8,h9⟩=>?_
  ·refine μ.block (μ.jt (I:=I) a1.sz hI fun i st hi ψ=>?_);obtain⟨h1,h2,⟨z,h3,hz⟩,h4,L,x,ξ,b,h5,h6,hL,h7,h8,h9,aH⟩:=ψ;have df:=fun T=>f268 (u:=u) [[43],[45]] (by decide) hl hp h7 T;have jq:=fun T=>f268 (u:=u) [[45]] (by decide) hl hp h7 T;simp only[ay,aA,ahX,ahY,ahZ]at df jq;unfold Sd;have lT:a1.sz+1-i=(a1.sz-i)+1:=by omega
   rw[lT]at aH;have iS:b.rM cc=(b.aB [43]||b.aB [45]):=by cases b<;>rfl
   cases hb:(b.aB [43]||b.aB [45])with
   |false=>
    rw[hb]at df
    refine μ.done (.exit 0) (fun st=>ζ st.env 2= .ae 2 0 0/\τ st.loc 2=some (0,.cells z)/\ζ st.env 3= .ae 3 0 0/\τ st.loc 3=some (0,.cells L)/\st.mem= {ε:=B.set p (.cells ξ),θ:=[]}) (by simp[h1,h2,h3,h4,h5,h6,df]) fun s' ⟨m1,m2,m3,m4,m5⟩=> .inr ⟨by simp,.inl ⟨rfl,.inl ⟨rfl,m1,⟨z,m2,hz⟩,m3,L,x,ξ,b,m4,m5,hL,h7,h8,aH x b (Θ.uX (iS.trans hb))⟩⟩⟩
   |true=>
    rw[hb]at df
    have jh:0<b.sz:=by
     rcases Bool.or_eq_true_iff.1 hb with h|h
     ·exact jD h (by simp)
     ·exact jD h (by simp)
    obtain⟨tk,lI,pL⟩:=Sw (u:=u) hl ab hp h7;simp only[Tok.ba]at lI;have Za:tk.text=b.hd:=by
     cases b with
     |w w=>cases hb
     |r st=>exact(pL st rfl).1
    obtain⟨_,w,aW,b2,k2,r2,g2,rfl⟩:=f226 (u:=u) (item:=item) tk.text hl ab b B p ξ hp h7;have lV:=g2.take jh;obtain⟨_,y,aQ,b3,k3,r3,g3,rfl,hy⟩:=C' b2 (by omega) B p aW hp r2;have x7:=g3.sz jf;have dU:L.length=4:=by rw[hL.len,x.gK]
    have eB:L.take 4=L:=dY (by omega);have eu:shaped true 4 (.agg L)=true:=by simp[shaped,dU]
    have iG:b.aB [45]=decide (b.hd=[45]):=by
     cases b with
     |w w=>cases hb
     |r st=>by_cases h:st.hd=[45]<;>simp[RS.aB,RS.rM,PS.aB,RS.hd,h]
    have step:∀K:Int,K=(if b.hd=[45]then 4 else 3)->Θ (F x) b (.mk K 0 [] .any [x,y]) b3:=fun K hK=>by subst hK;rw[Za]at g2;exact Θ.as (P:=fun t=>(aw s.length b.hd t).bind fun w t=>(A t).map fun y=>η.mk (if w=[45]then 4 else 3) 0 [] .any [x,y]) (Θ.word (Q:=fun w t=>(A t).map fun y=>η.mk (if w=[45]then 4 else 3) 0 [] .any [x,y]) g2 (g3.map _)) fun t ht=>by subst ht;rfl
    have go:∀K:Int,K=(if b.hd=[45]then 4 else 3)->∀s':St,ζ s'.env 0= .ν p 0/\ζ s'.env 2= .ae 2 0 0/\τ s'.loc 2=some (0,.cells z)/\ζ s'.env 3= .ae 3 0 0/\τ s'.loc 3=some (0,.cells [.int .i64 K,.int .i64 0,.str [],.list .full [.agg L,.agg y.four]])/\s'.mem= {ε:=B.set p (.cells aQ),θ:=[]}->i<a1.sz/\I (i+1) s':=fun K hK s' ⟨m1,m2,m3,m4,m5,m6⟩=>by
     have hx:(η.mk K 0 [] .any [x,y]).ey:=⟨⟨.inr rfl,h8.1,hy.1,trivial⟩,oZ,h8.2,hy.2,trivial⟩;have xE:bB [.int .i64 K,.int .i64 0,.str [],.list .full [.agg L,.agg y.four]] (η.mk K 0 [] .any [x,y]).four:=by simp only[η.four,η.Δ,η.jA];exact .cons (.int _ _) (.cons (.int _ _) (.cons (.str _) (.cons (.list .full (.cons (.agg hL) (.cons (.agg (iD hy)) .nil))) .nil)))
     exact⟨by omega,m1,m2,⟨z,m3,hz⟩,m4,_,_,aQ,b3,m5,m6,xE,r3,hx,by omega,fun y' b' hg=>aH y' b' (Θ.uY (iS.trans hb) (step K hK) (by rw[show a1.sz+1-(i+1)=a1.sz-i by omega]at hg;exact hg))⟩
    rw[iG]at jq;by_cases hm:b.hd=[45]
    ·rw[decide_eq_true hm]at jq;refine μ.done .normal (fun st=>ζ st.env 0= .ν p 0/\ζ st.env 2= .ae 2 0 0/\τ st.loc 2=some (0,.cells z)/\ζ st.env 3= .ae 3 0 0/\τ st.loc 3=some (0,.cells [.int .i64 4,.int .i64 0,.str [],.list .full [.agg L,.agg y.four]])/\st.mem= {ε:=B.set p (.cells aQ),θ:=[]}) (by simp[h1,h2,h3,h4,h5,h6,df,jq,lI,k2,k3,cF,dm,dy,fm,dU,eB,eu,bB.rb hL]) fun s' h=> .inl ⟨rfl,go 4 (by rw[if_pos hm]) s' h⟩
    ·rw[decide_eq_false hm]at jq;refine μ.done .normal (fun st=>ζ st.env 0= .ν p 0/\ζ st.env 2= .ae 2 0 0/\τ st.loc 2=some (0,.cells z)/\ζ st.env 3= .ae 3 0 0/\τ st.loc 3=some (0,.cells [.int .i64 3,.int .i64 0,.str [],.list .full [.agg L,.agg y.four]])/\st.mem= {ε:=B.set p (.cells aQ),θ:=[]}) (by simp[h1,h2,h3,h4,h5,h6,df,jq,lI,k2,k3,cF,dm,dy,fm,dU,eB,eu,bB.rb hL]) fun s' h=> .inl ⟨rfl,go 3 (by rw[if_neg hm]) s' h⟩
  ·have dU:L.length=4:=by rw[hL.len,x.gK]
   have eB:L.take 4=L:=dY (by omega);refine μ.done .ret (fun st=>ζ st.env 2= .ae 2 0 0/\τ st.loc 2=some (0,.cells L)/\st.mem= {ε:=B.set p (.cells ξ),θ:=[]}) (by simp[h2,h3,h4,h5,h6,hz,dU,eB]) fun s' ⟨m1,m2,m3⟩=>⟨by simp,L,x,ξ,b,m3,m1,m2,hL,h7,h9,h8⟩
 obtain⟨r,e1,e2,L,x,ξ,b,e3,e4,e5,hL,e6,e7,e8⟩:=dj;have dU:L.length=4:=by rw[hL.len,x.gK]
 have eB:L.take 4=L:=dY (by omega);exact⟨x,ξ,b,kG (g:=Gb) rfl rfl rfl hp rfl ⟨r,e1,e2,⟨[],by simp[e3]⟩,[.agg L],by simp[Gb,e4,e5,dU,eB],(Dv.agg hL).ai _ _ _⟩,e6,e7,e8⟩
theorem z7:∀(k:Nat) (a:RS),a.sz<k->iN u (cE s all c item) 296 [] (au s.length k) Ei a
 |0,_,h=>by omega
 |k+1,a,h=>f296 hl ab (fun a h=>z7 k a h) a h
theorem f295{k:Nat}(a:RS)(ha:a.sz<k):iN u (cE s all c item) 295 [] (sP s.length (au s.length k)) (fun x v=>v= .aP [.str x.1,.agg x.2.four]/\cX x.1/\x.2.ey) a:=by intro B p cs hp h;obtain⟨_,n,aX,a1,k1,r1,g1,rfl,hn⟩:=f227 (u:=u) (item:=item) hl ab a B p cs hp h;have s1:=g1.sz (jb _);obtain⟨_,w1,aW,a2,k2,r2,g2,rfl⟩:=f226 (u:=u) (item:=item) [91] hl ab a1 B p aX hp r1;have s2:=g2.sz (cr _ _);obtain⟨_,x,aQ,a3,k3,r3,g3,rfl,hx⟩:=z7 (u:=u) (item:=item) hl ab k a2 (by omega) B p aW hp r2;obtain⟨_,w2,dK,a4,k4,r4,g4,rfl⟩:=f226 (u:=u) (item:=item) [93] hl ab a3 B p aQ hp r3;refine⟨_,(n,x),dK,a4,kG (g:=Ga) rfl rfl rfl hp rfl ?_,r4,g1.bind (Q:=fun n s'=>(aw s.length [91] s').bind fun _ s'=>(au s.length k s').bind fun x s'=>(aw s.length [93] s').map fun _=>(n,x)) (g2.bind (Q:=fun _ s'=>(au s.length k s').bind fun x s'=>(aw s.length [93] s').map fun _=>(n,x)) (g3.bind (Q:=fun x s'=>(aw s.length [93] s').map fun _=>(n,x)) (g4.map fun _=>(n,x)))),rfl,hn,hx⟩;simp[Ga,OZ,aR,k1,k2,k3,k4];exact(Dv.aP (.cons (.str n) (.cons (.agg (iD hx)) .nil))).ai _ _ _
def Ep:Γ->AV->Prop:=fun x v=>v=x.av/\x.Ok
theorem f309{k:Nat}(a:RS)(ha:a.sz<k):iN u (cE s all c item) 309 [] (gP s.length (au s.length k)) Ep a:=by
 intro B p cs hp h;obtain⟨_,n,aX,a1,k1,r1,g1,rfl,hn⟩:=f227 (u:=u) (item:=item) hl ab a B p cs hp h;have s1:=g1.sz (jb _);have df:=fun T=>f268 (u:=u) [[91]] (by decide) hl hp r1 T;simp only[ay,aA,ahX,ahY,ahZ]at df;cases hb:a1.aB [91]with
 |false=>
  rw[hb]at df
  have eS:∀st,a1= .r st->st.aB [91]=false:=fun st hs=>by subst hs;exact hb
  refine⟨_,⟨n,.nil,[]⟩,aX,a1,kG (g:=vK) rfl rfl rfl hp rfl ?_,r1,g1.bind (Θ.as (Θ.pure _ _) fun st hs=>by simp[eS st hs]),rfl,hn,.inl rfl,by simp⟩;simp[vK,DY,aR,k1,df,cF];rfl
 |true=>
  rw[hb]at df
  obtain⟨_,w1,aW,a2,k2,r2,g2,rfl⟩:=f226 (u:=u) (item:=item) [91] hl ab a1 B p aX hp r1;have s2:=g2.sz (cr _ _);obtain⟨_,x,aQ,a3,k3,r3,g3,rfl,hx⟩:=z7 (u:=u) (item:=item) hl ab k a2 (by omega) B p aW hp r2;have s3:=g3.sz (e_ _ _);have e0:∀i cs,(B++[κ.front i 4 27]).set p (.cells cs)=B.set p (.cells cs)++[.front i 4 27]:=fun i cs=>lL _ _ hp;have mV:∀i,p<(B++[κ.front i 4 27]).length:=fun i=>by simp;omega
  have jq:=fun T=>f268 (u:=u) (B:=B++[.front 1 4 27]) [[58]] (by decide) hl (mV 1) r3 T;simp only[ay,aA,ahX,ahY,ahZ,e0]at jq;have qN:=fun T=>Nu {ε:=B.set p (.cells aQ),θ:=T} x.gK (Dv.agg (iD hx)).φ;simp only[fj,Mem.push]at qN;cases cQ:a3.aB [58]with
  |false=>
   rw[cQ]at jq
   have eS:∀st,a3= .r st->st.aB [58]=false:=fun st hs=>by subst hs;exact cQ
   obtain⟨_,w2,dK,a4,k4,r4,g4,rfl⟩:=f226 (u:=u) (item:=item) [93] hl ab a3 (B++[.front 1 4 27]) p aQ (mV 1) r3;simp only[e0]at k4;have bW:(⟨n,.any,[x]⟩:Γ).Ok:=⟨hn,.inr rfl,by simpa using hx⟩;refine⟨_,⟨n,.any,[x]⟩,dK,a4,kG (g:=vK) rfl rfl rfl hp rfl ?_,r4,?_,rfl,bW⟩
   ·simp[vK,DY,aR,k1,k2,k3,k4,df,jq,cF,qN,dm,dy,fm];exact(Dv.agg (.cons (.str n) (.cons (.list _ (.cons (.agg (iD hx)) .nil)) .nil))).ai _ _ _|>.trans (by simp[Γ.av,η.jA,χ.exp])
   ·refine g1.bind (Θ.as (P:=fun t=>(aw s.length [91] t).bind fun _ t=>(au s.length k t).bind fun x t=>(if t.aB [58]then(aw s.length [58] t).bind fun _ t=>(au s.length k t).map fun y=>[x,y]else .ok [x] t).bind fun l t=>(aw s.length [93] t).map fun _=>⟨n,.any,l⟩) ?_ fun st hs=>by subst hs;exact if_pos hb);exact g2.bind (g3.bind (Θ.bind (Θ.as (Θ.pure [x] a3) fun st hs=>by simp[eS st hs]) (g4.map fun _=>_)))
  |true=>
   rw[cQ]at jq
   obtain⟨_,w2,dK,a4,k4,r4,g4,rfl⟩:=f226 (u:=u) (item:=item) [58] hl ab a3 (B++[.front 1 4 27]) p aQ (mV 1) r3;have s4:=g4.sz (cr _ _);obtain⟨_,y,hS,a5,k5,r5,g5,rfl,hy⟩:=z7 (u:=u) (item:=item) hl ab k a4 (by omega) (B++[.front 1 4 27]) p dK (mV 1) r4;obtain⟨_,w3,nV,a6,k6,r6,g6,rfl⟩:=f226 (u:=u) (item:=item) [93] hl ab a5 (B++[.front 2 4 27]) p hS (mV 2) r5;simp only[e0]at k4 k5 k6;have uB:=fun T=>Nv (B.set p (.cells hS)) T x.gK y.gK (Dv.agg (iD hy)).φ;simp only[fj]at uB;have bW:(⟨n,.any,[x,y]⟩:Γ).Ok:=⟨hn,.inr rfl,by simpa using⟨hx,hy⟩⟩;refine⟨_,⟨n,.any,[x,y]⟩,nV,a6,kG (g:=vK) rfl rfl rfl hp rfl ?_,r6,?_,rfl,bW⟩
   ·simp[vK,DY,aR,k1,k2,k3,k4,k5,k6,df,jq,cF,qN,uB,dm,dy,fm];exact(Dv.agg (.cons (.str n) (.cons (.list _ (.cons (.agg (iD hx)) (.cons (.agg (iD hy)) .nil))) .nil))).ai _ _ _|>.trans (by simp[Γ.av,η.jA,χ.exp])
   ·refine g1.bind (Θ.as (P:=fun t=>(aw s.length [91] t).bind fun _ t=>(au s.length k t).bind fun x t=>(if t.aB [58]then(aw s.length [58] t).bind fun _ t=>(au s.length k t).map fun y=>[x,y]else .ok [x] t).bind fun l t=>(aw s.length [93] t).map fun _=>⟨n,.any,l⟩) ?_ fun st hs=>by subst hs;exact if_pos hb);exact g2.bind (g3.bind (Θ.bind (Θ.as (P:=fun t=>(aw s.length [58] t).bind fun _ t=>(au s.length k t).map fun y=>[x,y]) (g4.bind (g5.map fun y=>[x,y])) fun st hs=>by subst hs;exact if_pos cQ) (g6.map fun _=>_)))
end
end Go.ah.Tz
