import Derived.Test.YtiigojkfojnedaaGreatDoorPKg
set_option linter.unusedVariables false
set_option linter.unusedSimpArgs false
set_option linter.unusedSectionVars false
set_option maxRecDepth 100000
set_option maxHeartbeats 8000000
open Nat renaming le_refl->bQ
open List renaming getElem?_eq_getElem->eo,map_cons->ah,map_nil->aw,length_set->ft,nil_append->cO,append_nil->dx,getElem?_eq_none->iU,length->mB,set_append_left->lW,mem_singleton->lV,mem_cons->dX,drop_drop->vr,take_succ_cons->pK,length_take->kD,take_of_length_le->dY,any_cons->ah0,any_nil->ah1
open Bool renaming or_false->ah2
namespace Go.ab
open Tz (kI)
structure PS where
 last:Nat
 l:List Tok
inductive R (α:Type)
 |ok (x:α) (s:PS)
 |no (w:Nat)
inductive RS
 |r (s:PS)
 |w (w:Nat)
def R.bind{α β:Type}:R α->(α->PS->R β)->R β
 | .ok x s,f=>f x s
 | .no w,_=> .no w
def R.map{α β:Type}(f:α->β):R α->R β
 | .ok x s=> .ok (f x) s
 | .no w=> .no w
theorem R.bind_map{α β γ:Type}(a:R α)(Q:α->PS->R β)(f:β->γ):(a.bind Q).map f=a.bind fun x s=>(Q x s).map f:=by cases a<;>rfl
def Δ{α:Type}(P:PS->R α)(a:RS)(x:α)(b:RS):Prop:=
 match a with
 | .w w=>b= .w w
 | .r s=>match P s with
  | .ok y t=>x=y/\b= .r t
  | .no w=>b= .w w
def PS.hd(s:PS):List Nat:=match s.l with
 |[]=>[]
 |t::_=>t.text
def PS.kd(s:PS):Nat:=match s.l with
 |[]=>0
 |t::_=>t.kind
def PS.aD(s:PS)(w:List Nat):Bool:=s.hd==w
def PS.at_(e:Nat)(s:PS):Nat:=match s.l with
 |[]=>e
 |t::_=>t.at_
def gR(e:Nat)(f:Tok->Bool)(s:PS):R (List Nat):=match s.l with
 |[]=> .no e
 |t::l=>if t.kind=0\/f t=false then .no t.at_ else if 0<=t.bB then .no t.bB.toNat else .ok t.text ⟨t.at_+t.text.length,l⟩
def ak(e:Nat)(w:List Nat):PS->R (List Nat):=gR e fun t=>t.text==w
def fU(e:Nat):PS->R (List Nat):=gR e fun t=>t.kind==1&& !kI t.text
def numOf(s:List Nat):Nat:=s.foldl (fun n b=>10*n+(b-48)) 0
def sQ(e:Nat)(s:PS):R Nat:=(gR e (fun t=>t.kind==2) s).map numOf
def cK{α:Type}(c:PS->Bool)(f:α->PS->R α):Nat->α->PS->R α
 |0,_,_=> .no 0
 |n+1,x,s=>if c s then(f x s).bind (cK c f n)else .ok x s
def z0:ζ:= .mk 0 0 [] .nil []
def lC(e:Nat)(ix:PS->R ζ)(s:PS):R ζ:=
 if s.aD [40]then(ak e [40] s).bind fun _ s=>(ix s).bind fun x s=>(ak e [41] s).map fun _=>x
 else if s.kd=2 then(sQ e s).map fun n:Nat=> .mk 1 (n:Int) [] .nil []
 else(fU e s).map fun n=> .mk 2 0 n .nil []
def tY(e:Nat)(at':PS->R ζ)(s:PS):R ζ:=
 (at' s).bind fun x s=>cK (fun s=>s.aD [42]) (fun x s=>(ak e [42] s).bind fun _ s=>(at' s).map fun y=> .mk 5 0 [] .any [x,y]) (s.l.length+1) x s
def AR(e:Nat)(pr:PS->R ζ)(s:PS):R ζ:=
 (pr s).bind fun x s=>cK (fun s=>s.aD [43]||s.aD [45]) (fun x s=>(ak e s.hd s).bind fun w s=>(pr s).map fun y=> .mk (if w=[45]then 4 else 3) 0 [] .any [x,y]) (s.l.length+1) x s
def ai(e:Nat):Nat->PS->R ζ
 |0=>fun _=> .no 0
 |k+1=>AR e (tY e (lC e (ai e k)))
def gQ(e:Nat)(ix:PS->R ζ)(s:PS):R φ:=
 (fU e s).bind fun n s=>
  if s.aD [91]then(ak e [91] s).bind fun _ s=>(ix s).bind fun x s=>(if s.aD [58]then(ak e [58] s).bind fun _ s=>(ix s).map fun y=>[x,y]else .ok [x] s).bind fun l s=>(ak e [93] s).map fun _=>⟨n,.any,l⟩
  else .ok ⟨n,.nil,[]⟩ s
def sX(e:Nat)(ix:PS->R ζ)(s:PS):R (List Nat×ζ):=
 (fU e s).bind fun n s=>(ak e [91] s).bind fun _ s=>(ix s).bind fun x s=>(ak e [93] s).map fun _=>(n,x)
inductive Sp
 |mk (from_ to:Nat) (ins:List (List Sp))
def Ξ{α:Type}:List α->Γ
 |[]=> .nil
 |_=> .any
def ml{α:Type}(e:Nat)(item:PS->R α)(s:PS):R (List α):=
 if s.aD [41]then(ak e [41] s).map fun _=>[]
 else(item s).bind fun x s=>(cK (fun s=>s.aD [44]) (fun l s=>(ak e [44] s).bind fun _ s=>(item s).map fun y=>l++[y]) (s.l.length+1) [x] s).bind fun l s=>(ak e [41] s).map fun _=>l
def eY(s:List Nat):Nat:=match bu.findIdx? fun x=>x==s with
 |none=>0
 |some i=>i+1
def lP(e:Nat)(pl:PS->R φ):Nat->List φ->PS->R (List φ)
 |0,l,s=> .ok l s
 |n+1,l,s=>(ak e [44] s).bind fun _ s=>(pl s).bind fun p s=>lP e pl n (l++[p]) s
def ky(e:Nat)(ix:PS->R ζ)(s:PS):R δ:=
 let w:=s.hd
 let pl:=gQ e ix
 if 0<eY w then(ak e w s).bind fun _ s=>(pl s).bind fun p s=>(lP e pl (gT (eY w)-1) [p] s).map fun l=> .mk 1 (eY w) [] .any l z0 z0 .nil [] .nil []
 else if w=[116,97,107,101]then(ak e w s).bind fun _ s=>(sX e ix s).map fun x=> .mk 2 0 x.1 .nil [] x.2 z0 .nil [] .nil []
 else if w=[100,114,111,112]then(ak e w s).bind fun _ s=>(fU e s).map fun n=> .mk 3 0 n .nil [] z0 z0 .nil [] .nil []
 else if w=[109,101,97,115,117,114,101]then(ak e w s).bind fun _ s=>(pl s).bind fun p s=>(ak e [58] s).bind fun _ s=>(fU e s).map fun n=> .mk 5 0 n .any [p] z0 z0 .nil [] .nil []
 else if w=[114,101,115,101,116]then(ak e w s).bind fun _ s=>(pl s).map fun p=> .mk 6 0 [] .any [p] z0 z0 .nil [] .nil []
 else(fU e s).bind fun n s=>(ak e [40] s).bind fun _ s=>(ml e pl s).map fun l=> .mk 9 0 n (Ξ l) l z0 z0 .nil [] .nil []
def AL(e:Nat)(ix:PS->R ζ)(s:PS):R δ:=(ky e ix s).bind fun x s=>(ak e [59] s).map fun _=>x
def gJ(e:Nat)(ix:PS->R ζ)(blk:PS->R (List δ×List Sp))(s:PS):R (δ×List (List Sp)):=
 let w:=s.hd
 if w=[98,111,114,114,111,119]then(ak e w s).bind fun _ s=>(sX e ix s).bind fun x s=>(blk s).map fun b=>(.mk 4 0 x.1 .nil [] x.2 z0 (Ξ b.1) b.1 .nil [],[b.2])
 else if w=[105,102]then(ak e w s).bind fun _ s=>(fU e s).bind fun n s=>(blk s).bind fun b s=>
  if s.aD [101,108,115,101]then(ak e [101,108,115,101] s).bind fun _ s=>(blk s).map fun d=>(.mk 7 0 n .nil [] z0 z0 (Ξ b.1) b.1 (Ξ d.1) d.1,[b.2,d.2])
  else .ok (.mk 7 0 n .nil [] z0 z0 (Ξ b.1) b.1 .nil [],[b.2]) s
 else if w=[102,111,114]then(ak e w s).bind fun _ s=>(fU e s).bind fun n s=>(ak e [61] s).bind fun _ s=>(ix s).bind fun x s=>(ak e [58] s).bind fun _ s=>(ix s).bind fun y s=>(blk s).map fun b=>(.mk 8 0 n .nil [] x y (Ξ b.1) b.1 .nil [],[b.2])
 else if w=[117,110,100,111]then(ak e w s).bind fun _ s=>(blk s).map fun b=>(.mk 10 0 [] .nil [] z0 z0 (Ξ b.1) b.1 .nil [],[b.2])
 else if w=[119,105,116,104,105,110]then(ak e w s).bind fun _ s=>(blk s).bind fun b s=>(ak e [97,112,112,108,121] s).bind fun _ s=>(blk s).map fun d=>(.mk 11 0 [] .nil [] z0 z0 (Ξ b.1) b.1 (Ξ d.1) d.1,[b.2,d.2])
 else(AL e ix s).map fun x=>(x,[])
def ub(e:Nat)(st:PS->R (δ×List (List Sp)))(s:PS):R (δ×Sp):=(st s).bind fun x t=> .ok (x.1,.mk (s.at_ e) t.last x.2) t
def yy(e:Nat)(st:PS->R (δ×List (List Sp)))(s:PS):R (List δ×List Sp):=
 (ak e [123] s).bind fun _ s=>(cK (fun s=>!s.aD [125]) (fun l s=>(ub e st s).map fun x=>(l.1++[x.1],l.2++[x.2])) (s.l.length+1) ([],[]) s).bind fun l s=>(ak e [125] s).map fun _=>l
def bY(e:Nat)(ix:PS->R ζ):Nat->PS->R (List δ×List Sp)
 |0=>fun _=> .no 0
 |k+1=>yy e (gJ e ix (bY e ix k))
def ry(e:Nat)(s:PS):R aC:=(fU e s).bind fun n s=>(ak e [91] s).bind fun _ s=>(sQ e s).bind fun k s=>(ak e [93] s).map fun _=>⟨n,k⟩
def u9(e:Nat)(blk:PS->R (List δ×List Sp))(s:PS):R (ω×List Sp):=
 (ak e [112,114,111,99] s).bind fun _ s=>(fU e s).bind fun n s=>(ak e [40] s).bind fun _ s=>(ml e (ry e) s).bind fun ps s=>(blk s).map fun b=>(⟨n,Ξ ps,ps,Ξ b.1,b.1⟩,b.2)
def u_(e:Nat)(ts:List Tok):R (List ω×List (List Sp)):=
 cK (fun s=>!s.l.isEmpty) (fun l s=>(u9 e (bY e (ai e (ts.length+1)) (ts.length+1)) s).map fun x=>(l.1++[x.1],l.2++[x.2])) (ts.length+1) ([],[]) ⟨0,ts⟩
theorem Δ.bind{α β:Type}{P:PS->R α}{Q:α->PS->R β}{a b c:RS}{x:α}{y:β}(h:Δ P a x b)(k:Δ (Q x) b y c):Δ (fun s=>(P s).bind Q) a y c:=by
 cases a with
 |w w=>
  simp only[Δ]at h
  subst h;exact k
 |r s=>
  simp only[Δ]at h⊢
  cases hp:P s with
  |ok z t=>
   rw[hp]at h
   obtain⟨rfl,rfl⟩:=h;exact k
  |no w=>
   rw[hp]at h
   subst h;exact k
theorem Δ.map{α β:Type}{P:PS->R α}{a b:RS}{x:α}(f:α->β)(h:Δ P a x b):Δ (fun s=>(P s).map f) a (f x) b:=by
 cases a with
 |w w=>exact h
 |r s=>
  simp only[Δ]at h⊢
  cases hp:P s with
  |ok z t=>
   rw[hp]at h
   obtain⟨rfl,rfl⟩:=h;exact⟨rfl,rfl⟩
  |no w=>rw[hp]at h;exact h
theorem Δ.pure{α:Type}(x:α)(a:RS):Δ (fun s=> .ok x s) a x a:=by
 cases a with
 |w w=>rfl
 |r s=>exact⟨rfl,rfl⟩
def RS.sz(a:RS):Nat:=match a with
 | .r s=>s.l.length
 | .w _=>0
def RS.rX(c:PS->Bool)(a:RS):Bool:=match a with
 | .r s=>c s
 | .w _=>false
def RS.aD(a:RS)(w:List Nat):Bool:=a.rX fun s=>s.aD w
theorem jL{a:RS}{w:List Nat}(h:a.aD w=true)(hw:w≠[]):0<a.sz:=by
 cases a with
 |w w=>cases h
 |r st=>
  obtain⟨la,l⟩:=st
  cases l with
  |nil=>exact absurd (beq_iff_eq.1 (show(PS.hd ⟨la,[]⟩==w)=true from h)).symm hw
  |cons t l=>simp[RS.sz]
theorem Δ.u3{α:Type}{c:PS->Bool}{f:α->PS->R α}{n:Nat}{x:α}{a:RS}(h:a.rX c=false):Δ (cK c f (n+1) x) a x a:=by
 cases a with
 |w w=>rfl
 |r s=>
  have h:c s=false:=h
  simp[Δ,cK,h]
theorem Δ.u4{α:Type}{c:PS->Bool}{f:α->PS->R α}{n:Nat}{x x' y:α}{a a' b:RS}(hc:a.rX c=true)(h:Δ (f x) a x' a')(k:Δ (cK c f n x') a' y b):Δ (cK c f (n+1) x) a y b:=by
 cases a with
 |w w=>cases hc
 |r s=>
  have hc:c s=true:=hc
  have e:∀s',c s'=true->cK c f (n+1) x s'=(f x s').bind (cK c f n):=fun s' h=>by simp[cK,h]
  have:=Δ.bind (P:=f x) (Q:=cK c f n) h k;simpa only[Δ,e s hc]using this
theorem Δ.fuel{α:Type}{c:PS->Bool}{f:α->PS->R α}{x y:α}{a b:RS}(h:Δ (cK c f (a.sz+1) x) a y b):Δ (fun s=>cK c f (s.l.length+1) x s) a y b:=by
 cases a with
 |w w=>exact h
 |r s=>exact h
theorem Δ.as{α:Type}{P Q:PS->R α}{a b:RS}{x:α}(h:Δ P a x b)(k:∀s,a= .r s->Q s=P s):Δ Q a x b:=by
 cases a with
 |w w=>exact h
 |r s=>simp only[Δ]at h⊢;rw[k s rfl];exact h
def df{α:Type}(P:PS->R α):Prop:=∀s x t,P s= .ok x t->t.l.length<=s.l.length
theorem Δ.sz{α:Type}{P:PS->R α}{a b:RS}{x:α}(h:Δ P a x b)(k:df P):b.sz<=a.sz:=by
 cases a with
 |w w=>simp only[Δ]at h;subst h;simp[RS.sz]
 |r s=>
  simp only[Δ]at h
  cases hp:P s with
  |ok y t=>rw[hp]at h;obtain⟨_,rfl⟩:=h;exact k _ _ _ hp
  |no w=>rw[hp]at h;subst h;simp[RS.sz]
theorem Ii{e:Nat}{f:Tok->Bool}{s:PS}{x:List Nat}{t:PS}(h:gR e f s= .ok x t):t.l.length+1=s.l.length:=by
 obtain⟨la,l⟩:=s;cases l with
 |nil=>cases h
 |cons a l=>
  simp only[gR]at h
  split at h
  ·cases h
  ·split at h
   ·cases h
   ·cases h;rfl
def RS.hd(a:RS):List Nat:=match a with
 | .r s=>s.hd
 | .w _=>[]
theorem agq{e:Nat}{f:Tok->Bool}{s:PS}{x:List Nat}{t:PS}(h:gR e f s= .ok x t):x=s.hd:=by
 obtain⟨la,l⟩:=s;cases l with
 |nil=>cases h
 |cons a l=>
  simp only[gR]at h
  split at h
  ·cases h
  ·split at h
   ·cases h
   ·cases h;rfl
theorem Δ.word{β:Type}{e:Nat}{f:Tok->Bool}{Q:List Nat->PS->R β}{a b c:RS}{x:List Nat}{y:β}(h:Δ (gR e f) a x b)(k:Δ (Q a.hd) b y c):Δ (fun s=>(gR e f s).bind Q) a y c:=by
 cases a with
 |w w=>simp only[Δ]at h;subst h;exact k
 |r s=>
  simp only[Δ]at h⊢
  cases hp:gR e f s with
  |ok z t=>
   rw[hp]at h
   obtain⟨rfl,rfl⟩:=h;rw[agq hp];exact k
  |no w=>rw[hp]at h;subst h;exact k
theorem Δ.take{e:Nat}{f:Tok->Bool}{a b:RS}{x:List Nat}(h:Δ (gR e f) a x b)(ha:0<a.sz):b.sz<a.sz:=by
 cases a with
 |w w=>simp[RS.sz]at ha
 |r s=>
  simp only[Δ]at h
  cases hp:gR e f s with
  |ok y t=>rw[hp]at h;obtain⟨_,rfl⟩:=h;have:=Ii hp;simp only[RS.sz];omega
  |no w=>rw[hp]at h;subst h;exact ha
theorem df.take(e:Nat)(f:Tok->Bool):df (gR e f):=fun _ _ _ h=>by have:=Ii h;omega
theorem df.bind{α β:Type}{P:PS->R α}{Q:α->PS->R β}(h:df P)(k:∀x,df (Q x)):df fun s=>(P s).bind Q:=fun s y t e=>by
 have e:(P s).bind Q= .ok y t:=e;cases hp:P s with
 |ok x s'=>
  rw[hp]at e
  have:=h _ _ _ hp;have:=k x _ _ _ e;omega
 |no w=>rw[hp]at e;cases e
theorem df.map{α β:Type}{P:PS->R α}{f:α->β}(h:df P):df fun s=>(P s).map f:=fun s y t e=>by
 have e:(P s).map f= .ok y t:=e;cases hp:P s with
 |ok x s'=>rw[hp]at e;cases e;exact h _ _ _ hp
 |no w=>rw[hp]at e;cases e
theorem df.ok{α:Type}(x:α):df fun s=> .ok x s:=fun s y t e=>by cases e;exact bQ _
theorem df.ite{α:Type}{c:PS->Prop}[∀s,Decidable (c s)]{P Q:PS->R α}(h:df P)(k:df Q):df fun s=>if c s then P s else Q s:=fun s y t e=>by
 dsimp only at e;split at e
 ·exact h _ _ _ e
 ·exact k _ _ _ e
theorem df.loop{α:Type}{c:PS->Bool}{f:α->PS->R α}(h:∀x,df (f x)):∀n x,df (cK c f n x):=by
 intro n;induction n with
 |zero=>intro x s y t e;cases e
 |succ n ih=>intro x;exact .ite ((h x).bind ih) (.ok x)
theorem df.HI{α:Type}{c:PS->Bool}{f:α->PS->R α}(h:∀x,df (f x))(x:α):df fun s=>cK c f (s.l.length+1) x s:=fun s=>df.loop h _ x s
theorem cI(e:Nat)(w:List Nat):df (ak e w):= .take _ _
theorem jx(e:Nat):df (fU e):= .take _ _
theorem Em(e:Nat):df (sQ e):= .map (.take _ _)
theorem BG(e:Nat){ix:PS->R ζ}(h:df ix):df (lC e ix):=
 .ite ((cI e _).bind fun _=>h.bind fun _=>(cI e _).map) (.ite (Em e).map (jx e).map)
theorem JF(e:Nat){at':PS->R ζ}(h:df at'):df (tY e at'):=h.bind fun x=> .HI (fun x=>(cI e _).bind fun _=>h.map) x
theorem Xo(e:Nat){pr:PS->R ζ}(h:df pr):df (AR e pr):=h.bind fun x=> .HI (fun x s y t k=>((cI e s.hd).bind fun _=>h.map) s y t k) x
theorem fl(e k:Nat):df (ai e k):=by
 induction k with
 |zero=>intro s x t h;cases h
 |succ k ih=>exact Xo e (JF e (BG e ih))
theorem Eo(e:Nat){ix:PS->R ζ}(h:df ix):df (gQ e ix):=
 (jx e).bind fun _=> .ite ((cI e _).bind fun _=>h.bind fun _=>(df.ite ((cI e _).bind fun _=>h.map) (.ok _)).bind fun _=>(cI e _).map) (.ok _)
theorem BH(e:Nat){ix:PS->R ζ}(h:df ix):df (sX e ix):=(jx e).bind fun _=>(cI e _).bind fun _=>h.bind fun _=>(cI e _).map
end Go.ab
namespace Go.ab.Tz
open Go.ab
variable{u:Nat}
attribute [local simp] exec eG eu fz aF d_ fQ fe bq gN bT gF gS hU hZ mD AV.cells newVar hH rd wr gg single fy bF er dL κ bf RV.get ba dU jy
def iV(u:Nat){α:Type}(Rel:List AV->RS->Prop)(f:FuncId)(args:List AV)(P:PS->R α)(E:α->AV->Prop)(a:RS):Prop:=
 ∀(B:List θ) (p:Nat) (cs:List AV),p<B.length->Rel cs a->∃v x ξ b,(∀T,aS (C u) (.fn (.func f) [] []) (.μ p 0::args) {ε:=B.set p (.cells cs),η:=T}=some (v,{ε:=B.set p (.cells ξ),η:=T}))/\Rel ξ b/\Δ P a x b/\E x v
def Me(l:List Tok):Nat:=match l.getLast? with
 |some t=>t.at_+t.text.length
 |none=>0
structure _root_.Go.ab.Tok.Ok (t:Tok):Prop where
 str:dJ t.text
 ne:t.text≠[]
 bB:0<=t.bB->t.kind<=2/\∀w∈[[40],[41],[91],[93],[123],[125],[44],[59],[58],[61],[43],[45],[42]]++fX,t.text≠w
 zero:t.kind=0->t.bB=t.at_
 pos:t.at_+t.text.length<4000000000
 num:t.kind=2->t.bB<0->t.text.length<=2/\∀b∈t.text,dI b=true
section
variable(s:List Nat)(all:List Tok)(c:Γ)
def cV(item:AV)(cs:List AV)(a:RS):Prop:=
 ∃(k:Nat) (wr:Int),cs=[.str s,.list c (all.map Tok.a_),.n k,.n wr,item]/\k<=all.length/\match a with
  | .r st=>wr= -1/\all.drop k=st.l/\Me (all.take k)=st.last
  | .w w=>wr=(w:Int)
variable{s all c}{item:AV}
theorem Mj{l:List Tok}{k:Nat}{t:Tok}{r:List Tok}(h:l.drop k=t::r):k<l.length/\l[k]?=some t/\l.drop (k+1)=r:=by
 have hk:k<l.length:=by
  rcases Nat.lt_or_ge k l.length with h1|h1
  ·exact h1
  ·rw[List.drop_eq_nil_of_le h1]at h;cases h
 rw[List.drop_eq_getElem_cons hk]at h;injection h with h1 h2
 exact⟨hk,by rw[eo hk,h1],h2⟩
def qv(s:List Nat)(all:List Tok)(k:Nat):Tok:=match all[k]? with
 |some t=>t
 |none=>⟨s.length,0,[],-1⟩
theorem f291(B:List θ)(p:Nat)(hp:p<B.length)(k:Nat)(wr:Int)(T:List Nat)(hl:all.length<1000000000):
  kf u 291 [.μ p 0] {ε:=B.set p (.cells [.str s,.list c (all.map Tok.a_),.n k,.n wr,item]),η:=T}=some ((qv s all k).a_,{ε:=B.set p (.cells [.str s,.list c (all.map Tok.a_),.n k,.n wr,item]),η:=T}):=by
 refine bz (g:=Gl) rfl rfl rfl ?_;have hg:∀cs,(B.set p (θ.cells cs))[p]?=some (.cells cs):=fun cs=>by simp[hp]
 simp only[ah,aw,exp,ft,hp,if_true,Gl,Pn];unfold qv;cases hk:all[k]? with
 |some t=>
  have ν:=oR hk
  have dE:(k:Int)<all.length:=by omega
  have wh:all[k]=t:=by rw[eo ν]at hk;simpa using hk
  simp[aQ,hg,ν,dE,wh,Tok.a_];rfl
 |none=>
  have cD:=List.getElem?_eq_none_iff.1 hk
  have dE:¬k<all.length:=by omega
  simp[aQ,hg,dE,cX,Tok.a_];rfl
theorem W5{C:iT}{f:FuncId}{fst args cap:List AV}{m:Mem}:aS C (.fn (.func f) fst cap) args m=aS C (.fn (.func f) [] []) (fst++args++cap) m:=by
 apply Option.ext;intro r;rw[qO,qO];have:∀k,cv C k (.fn (.func f) fst cap) args m=cv C k (.fn (.func f) [] []) (fst++args++cap) m:=fun k=>by
  cases k with
  |zero=>rfl
  |succ k=>simp only[cv,body,cO,dx]
 simp only[this]
theorem S8{l:List Tok}{k:Nat}{t:Tok}(h:l[k]?=some t):Me (l.take (k+1))=t.at_+t.text.length:=by rw[List.take_add_one,h];simp[Me]
def Tx(all:List Tok)(f:Tok->Bool)(x:List Nat):Prop:=x=[]\/∃t∈all,x=t.text/\f t=true/\t.bB<0
theorem Tx.str{f:Tok->Bool}{x:List Nat}(Θ:∀t∈all,t.Ok)(h:Tx all f x):dJ x:=by
 rcases h with rfl|⟨t,ht,rfl,_⟩
 ·exact fun b hb=>by cases hb
 ·exact(Θ t ht).str
theorem f265{fv:AV}{f:Tok->Bool}{B:List θ}{p:Nat}{cs:List AV}{a:RS}(hp:p<B.length)(hl:all.length<1000000000)(Θ:∀t∈all,t.Ok)(hx:exp B.length false fv=fv)
  (hf:∀t∈all,∀T,aS (C u) fv [t.a_] {ε:=B.set p (.cells cs),η:=T}=some (.bool (f t),{ε:=B.set p (.cells cs),η:=T})) (h:cV s all c item cs a):
  ∃x ξ b,(∀T,kf u 265 [.μ p 0,fv] {ε:=B.set p (.cells cs),η:=T}=some (.str x,{ε:=B.set p (.cells ξ),η:=T}))/\cV s all c item ξ b/\Δ (gR s.length f) a x b/\Tx all f x:=by
 obtain⟨k,wr,rfl,hk,h⟩:=h;have hg:∀cs,(B.set p (θ.cells cs))[p]?=some (.cells cs):=fun cs=>by simp[hp]
 have lR:∀T,aS (C u) (.fn (.func 291) [.μ p 0] []) [] {ε:=B.set p (.cells [.str s,.list c (all.map Tok.a_),.n k,.n wr,item]),η:=T}=_:=fun T=>(W5 (C:=C u)).trans (f291 (item:=item) (s:=s) (c:=c) B p hp k wr T hl);have go:∀(x:List Nat) (k':Nat) (No:Int),(κ (C u).gl (aS (C u)) I3 {env:=[.μ p 0,fv],loc:=[],mem:= {ε:=B.set p (.cells [.str s,.list c (all.map Tok.a_),.n k,.n wr,item]),η:=[]}} fun r=>(∀i,r.1≠ .exit i)/\r.2.mem= {ε:=B.set p (.cells [.str s,.list c (all.map Tok.a_),.n k',.n No,item]),η:=[]}/\bq r.2.env 4= .str x)→
   ∀T,kf u 265 [.μ p 0,fv] {ε:=B.set p (.cells [.str s,.list c (all.map Tok.a_),.n k,.n wr,item]),η:=T}=some (.str x,{ε:=B.set p (.cells [.str s,.list c (all.map Tok.a_),.n k',.n No,item]),η:=T}):=by
  intro x k' No hr T;refine lO (g:=F9) rfl rfl rfl (by simp) ?_;have dV:([]++[AV.μ p 0,fv]++[]).map (exp (B.set p (θ.cells [.str s,.list c (all.map Tok.a_),.n k,.n wr,item])).length false)=[AV.μ p 0,fv]:=by simp[exp,hp,hx]
  rw[dV];exact hr.mono fun r ⟨h1,h2,h3⟩=>⟨h1,⟨[],by rw[h2,dx]⟩,[.str x],by simp[F9,h3],rfl⟩
 unfold I3 at go;have Ct:Tx all f []:= .inl rfl;have Ae:qv s all k=match a with
   | .r ⟨_,[]⟩=>⟨s.length,0,[],-1⟩
   | .r ⟨_,t::_⟩=>t
   | .w _=>qv s all k:=by
  cases a with
  |w w=>rfl
  |r st=>
   obtain⟨la,l⟩:=st
   cases l with
   |nil=>
    have:all[k]?=none:=iU (by have:=congrArg mB h.2.1;simp at this;omega)
    simp[qv,this]
   |cons t l=>simp[qv,(Mj h.2.1).2.1]
 cases a with
 |w w=>
  have hw:0<=wr:=by rw[h];omega
  refine⟨[],_,.w w,go [] k wr ?_,⟨k,wr,rfl,hk,h⟩,rfl,Ct⟩;simp[aQ,lR,hg,Tok.a_,hw]
 |r st=>
  obtain⟨rfl,h1,h2⟩:=h
  obtain⟨la,l⟩:=st;dsimp only at h1 h2;cases l with
  |nil=>
   simp only at Ae
   rw[Ae]at lR;refine⟨[],_,.w s.length,go [] k s.length ?_,⟨k,s.length,rfl,hk,rfl⟩,rfl,Ct⟩;simp[aQ,lR,hg,Tok.a_,Mem.put,Mem.ρ,ρ,bh,lo]
  |cons t l=>
   simp only at Ae
   rw[Ae]at lR;obtain⟨ν,wh,uH⟩:=Mj h1;have cE:t∈all:=List.mem_of_getElem? wh;have hf:=hf t cE;have qp:=Θ t cE;simp only[Tok.a_]at hf;by_cases hz:t.kind=0
   ·have wz:((t.kind:Int)==0)=true:=beq_iff_eq.2 (by omega);refine⟨[],_,.w t.at_,go [] k t.at_ ?_,⟨k,t.at_,rfl,hk,rfl⟩,by simp[Δ,gR,hz],Ct⟩;simp[aQ,lR,hg,Tok.a_,Mem.put,Mem.ρ,ρ,bh,lo,wz]
   have wz:((t.kind:Int)==0)=false:=beq_eq_false_iff_ne.2 (by omega);cases zX:f t with
   |false=>
    rw[zX]at hf
    refine⟨[],_,.w t.at_,go [] k t.at_ ?_,⟨k,t.at_,rfl,hk,rfl⟩,by simp[Δ,gR,zX],Ct⟩;simp[aQ,lR,hg,Tok.a_,Mem.put,Mem.ρ,ρ,bh,lo,wz,hf]
   |true=>
    rw[zX]at hf
    by_cases hw:0<=t.bB
    ·refine⟨[],_,.w t.bB.toNat,go [] k t.bB ?_,⟨k,t.bB,rfl,hk,by omega⟩,by simp[Δ,gR,zX,hw,hz],Ct⟩;simp[aQ,lR,hg,Tok.a_,Mem.put,Mem.ρ,ρ,bh,lo,wz,hf,hw]
    ·have dh:IntKind.wrap .i64 ((k:Int)+1)=(k:Int)+1:=wrap_i64 (by omega) (by omega);refine⟨t.text,_,.r ⟨t.at_+t.text.length,l⟩,go t.text (k+1) (-1) ?_,⟨k+1,-1,rfl,by omega,rfl,uH,S8 wh⟩,by simp[Δ,gR,zX,hw,hz],.inr ⟨t,cE,rfl,zX,by omega⟩⟩;simp[aQ,lR,hg,Tok.a_,Mem.put,Mem.ρ,ρ,bh,lo,wz,hf,hw,dh]
theorem f266{B:List θ}{i:Nat}{w:List Nat}(h:B[i]?=some (.cells [.str w]))(t:Tok)(T:List Nat):aS (C u) (.fn (.func 266) [] [.μ i 0]) [t.a_] {ε:=B,η:=T}=some (.bool (t.text==w),{ε:=B,η:=T}):=by
 refine rY (g:=F_) rfl rfl rfl ?_;have hi:=oR h;have dV:([]++[t.a_]++[AV.μ i 0]).map (exp B.length false)=[t.a_,.μ i 0]:=by simp[Tok.a_,exp,bn,hi]
 dsimp only;rw[dV];clear hi;by_cases hw:t.text=w<;>simp[F_,Pb,Tok.a_,aQ,h,hw]
def Eu{α:Type}:α->AV->Prop:=fun _ v=>v= .aO []
theorem f226(w:List Nat)(hl:all.length<1000000000)(Θ:∀t∈all,t.Ok)(a:RS):iV u (cV s all c item) 226 [.str w] (ak s.length w) Eu a:=by
 intro B p cs hp h;have e0:∀cs,(B++[θ.cells [.str w]]).set p (.cells cs)=B.set p (.cells cs)++[.cells [.str w]]:=fun cs=>lW _ _ hp;obtain⟨x,ξ,b,h1,h2,h3,h4⟩:=f265 (u:=u) (fv:= .fn (.func 266) [] [.μ B.length 0]) (f:=fun t=>t.text==w) (B:=B++[.cells [.str w]]) (p:=p) (cs:=cs) (by simp;omega) hl Θ
  (by simp[exp,bn,Fn.below]) (fun t _ T=>f266 (by rw[e0];simp) t T) h
 refine⟨.aO [],x,ξ,b,fun T=>?_,h2,h3,rfl⟩;simp only[e0]at h1;refine lO (g:=FH) rfl rfl rfl (by simp) ?_;simp[exp,hp,FH,c226,Mem.push,Mem.ρ,ρ,h1];rfl
theorem Mk{k:Nat}{st:PS}(h:all.drop k=st.l):(qv s all k).text=st.hd/\(qv s all k).kind=st.kd/\(qv s all k).at_=st.at_ s.length:=by
 obtain⟨la,l⟩:=st;cases l with
 |nil=>
  have:all[k]?=none:=iU (by have:=congrArg mB h;simp at this;omega)
  simp[qv,this,PS.hd,PS.kd,PS.at_]
 |cons t l=>simp[qv,(Mj h).2.1,PS.hd,PS.kd,PS.at_]
theorem f268(ws:List (List Nat))(CI:ws.length<1000000000)(hl:all.length<1000000000){B:List θ}{p:Nat}{cs:List AV}{a:RS}(hp:p<B.length)(h:cV s all c item cs a)(T:List Nat):
  kf u 268 [.μ p 0,.list .full (ws.map AV.str)] {ε:=B.set p (.cells cs),η:=T}=some (.bool (ws.any fun w=>a.aD w),{ε:=B.set p (.cells cs),η:=T}):=by
 obtain⟨k,wr,rfl,hk,h⟩:=h;have hg:∀cs,(B.set p (θ.cells cs))[p]?=some (.cells cs):=fun cs=>by simp[hp]
 have lR:=fun T=>f291 (u:=u) (item:=item) (s:=s) (c:=c) B p hp k wr T hl;have H9:=fun t m=>f65 (u:=u) .any (.inr rfl) ws t (by omega) m;refine bz (g:=BS) rfl rfl rfl ?_;have dV:[AV.μ p 0,.list .full (ws.map AV.str)].map (exp (B.set p (θ.cells [.str s,.list c (all.map Tok.a_),.n k,.n wr,item])).length false)=[AV.μ p 0,nH .any ws]:=by simp[exp,fm,hp,nH,Γ.exp,Function.comp]
 dsimp only at dV⊢;rw[dV];cases a with
 |w w=>
  have hw:¬wr<0:=by omega
  simp[BS,I4,hg,hw,RS.aD,RS.rX]
 |r st=>
  obtain⟨rfl,h1,h2⟩:=h
  have e1:=(Mk (s:=s) h1).1;simp only[Tok.a_,e1]at lR;have e2:(ws.any fun w=>(RS.r st).aD w)=ws.contains st.hd:=by simp only[RS.aD,RS.rX,PS.aD,List.any_beq]
  simp[BS,I4,hg,lR,H9,e2]
theorem f267(t:Tok)(m:Mem):kf u 267 [t.a_] m=some (.bool (t.kind==1&& !kI t.text),m):=by
 have g0:(C u).gl 0= .ref [nH .any bu]:=rfl;have g1:(C u).gl 1= .ref [nH .any fO]:=rfl;have H9:=fun ws h t m=>f65 (u:=u) .any (.inr rfl) ws h t m;have hw:kI t.text=(fO.contains t.text||bu.contains t.text):=by simp[kI,fX,List.contains_eq_any_beq]
 refine rY (g:=zH) rfl rfl rfl ?_;have dV:([]++[t.a_]++[]).map (exp m.ε.length false)=[t.a_]:=by simp[Tok.a_,exp,bn]
 rw[dV];have qg:=fun m=>H9 bu t.text (by decide) m;have qk:=fun m=>H9 fO t.text (by decide) m;by_cases hk:t.kind=1
 ·have dm:((t.kind:Int)==1)=true:=beq_iff_eq.2 (by omega);rw[hw,hk];cases hg:bu.contains t.text with
  |true=>rw[hg]at qg;simp[zH,DY,Tok.a_,aQ,dm,g0,g1,qg]
  |false=>
   rw[hg]at qg
   simp[zH,DY,Tok.a_,aQ,dm,g0,g1,qg,qk]
 ·have dm:((t.kind:Int)==1)=false:=beq_eq_false_iff_ne.2 (by omega);have fo:(t.kind==1)=false:=beq_eq_false_iff_ne.2 hk;simp[zH,DY,Tok.a_,aQ,dm,fo]
def Es:List Nat->AV->Prop:=fun x v=>v= .str x/\dJ x
theorem f227(hl:all.length<1000000000)(Θ:∀t∈all,t.Ok)(a:RS):iV u (cV s all c item) 227 [] (fU s.length) Es a:=by intro B p cs hp h;obtain⟨x,ξ,b,h1,h2,h3,h4⟩:=f265 (u:=u) (fv:= .fn (.func 267) [] []) (f:=fun t=>t.kind==1&& !kI t.text) (B:=B) (p:=p) (cs:=cs) hp hl Θ (by simp[exp,bn,Fn.below]) (fun t _ T=>f267 t _) h;refine⟨.str x,x,ξ,b,fun T=>?_,h2,h3,rfl,h4.str Θ⟩;refine lO (g:=FI) rfl rfl rfl (by simp) ?_;simp[exp,hp,FI,c227,h1];rfl
theorem f270(t:Tok)(m:Mem):kf u 270 [t.a_] m=some (.bool (t.kind==2),m):=by
 refine rY (g:=BT) rfl rfl rfl ?_;have dV:([]++[t.a_]++[]).map (exp m.ε.length false)=[t.a_]:=by simp[Tok.a_,exp,bn]
 rw[dV];by_cases hk:t.kind=2
 ·simp[BT,I5,Tok.a_,aQ,hk]
 ·have dm:((t.kind:Int)==2)=false:=beq_eq_false_iff_ne.2 (by omega);have fo:(t.kind==2)=false:=beq_eq_false_iff_ne.2 hk;simp[BT,I5,Tok.a_,aQ,dm,fo]
def En:Nat->AV->Prop:=fun x v=>v= .n x/\x<100
theorem Ty{t:Tok}(h:t.Ok)(hk:t.kind=2)(hw:t.bB<0):yD 0 t.text=some (numOf t.text)/\numOf t.text<100/\∃b r,t.text=b::r/\r.length<=17/\dI b=true:=by
 obtain⟨h1,h2⟩:=h.num hk hw;have h3:=h.ne;generalize t.text=x at*
 match x,h1,h2,h3 with
 |[a],_,h2,_=>
  have:=h2 a (by simp)
  have hd:=Bv this;exact⟨by simp[yD,numOf,hd],by simp[numOf];omega,a,[],rfl,by simp,this⟩
 |[a,b],_,h2,_=>
  have h4:=h2 a (by simp)
  have hd:=Bv h4;have sw:=Bv (h2 b (by simp));exact⟨by simp[yD,numOf,hd,sw];omega,by simp[numOf];omega,a,[b],rfl,by simp,h4⟩
theorem f230(hl:all.length<1000000000)(Θ:∀t∈all,t.Ok)(a:RS):iV u (cV s all c item) 230 [] (sQ s.length) En a:=by
 intro B p cs hp h;obtain⟨x,ξ,b,h1,h2,h3,h4⟩:=f265 (u:=u) (fv:= .fn (.func 270) [] []) (f:=fun t=>t.kind==2) (B:=B) (p:=p) (cs:=cs) hp hl Θ (by simp[exp,bn,Fn.below]) (fun t _ T=>f270 t _) h;have hx:∃e,(∀m,kf u 269 [.str x] m=some (.aO [.n (numOf x),e],m))/\numOf x<100:=by
  rcases h4 with rfl|⟨t,ht,rfl,hf,hw⟩
  ·exact⟨_,fun m=>AD (p:=tW 350) (by rfl) (by simp[exp,tW,numOf];rfl),by decide⟩
  ·obtain⟨k1,k2,b,r,k3,k4,k5⟩:=Ty (Θ t ht) (by simpa using hf) hw;exact⟨.ga,fun m=>AD (p:=tW 350) (by rfl) (by rw[k3]at k1⊢;simp[exp,tW,k1,k4,k5]),k2⟩
 obtain⟨e,hx,qs⟩:=hx;refine⟨.n (numOf x),numOf x,ξ,b,fun T=>?_,h2,h3.map numOf,rfl,qs⟩;refine lO (g:=FJ) rfl rfl rfl (by simp) ?_;simp[exp,hp,FJ,OV,h1,hx]
end
end Go.ab.Tz
namespace Go.ab
open Tz
theorem ags(k:Nat):∀n (l:List Nat) t,t∈rG k n l->∃m j b r,t=dK m (b::r)/\l.drop j=b::r/\m=n+j:=by
 induction k with
 |zero=>intro n l t h;cases h
 |succ k ih=>
  intro n l t h
  simp only[rG]at h;split at h
  ·cases h
  ·rename_i hl;have aj:∃b r,l.drop (bI false l)=b::r:=by
    cases hr:l.drop (bI false l)with
    |nil=>have:=congrArg mB hr;simp at this;omega
    |cons b r=>exact⟨b,r,rfl⟩
   obtain⟨b,r,hr⟩:=aj;rw[hr]at h;split at h
   ·rw[lV.1 h];exact⟨_,_,b,r,rfl,hr,rfl⟩
   ·rcases dX.1 h with rfl|h
    ·exact⟨_,_,b,r,rfl,hr,rfl⟩
    ·obtain⟨m,j,b',r',h1,h2,h3⟩:=ih _ _ _ h;rw[<-hr]at h2 h3;rw[vr,vr]at h2;exact⟨m,_,b',r',h1,h2,by omega⟩
def xl:List (List Nat):=[[40],[41],[91],[93],[123],[125],[44],[59],[58],[61],[43],[45],[42]]++fX
theorem VC:∀w∈xl,w.length<=8:=by decide
theorem VB:∀w∈xl,∀b∈w.head?,dI b=false:=by decide
theorem VD:∀w∈xl,∀b∈w.head?,isLet b=true\/b∈eJ:=by decide
theorem afH(f:Nat->Bool)(l:List Nat):∀b∈l.take (runN f l),f b=true:=by
 induction l with
 |nil=>simp[runN]
 |cons a l ih=>
  simp only[runN]
  by_cases h:f a=true
  ·rw[if_pos h,pK];intro b hb;rcases dX.1 hb with rfl|hb
   ·exact h
   ·exact ih b hb
  ·rw[if_neg h];simp
theorem UU(m b:Nat)(r:List Nat)(hs:dJ (b::r))(hm:m+(b::r).length<4000000000):(dK m (b::r)).Ok:=by
 have hlen:=Il m (b::r);have ji:=AS m b r;have fR:(dK m (b::r)).at_=m:=by simp only[dK];(repeat' split)<;>rfl
 have ef:∀k,dJ ((b::r).take k):=fun k x hx=>hs x (List.mem_of_mem_take hx);have aj:(dK m (b::r)).text≠[]:=fun h=>by rw[h]at ji;cases ji
 have qo:dJ (dK m (b::r)).text:=by
  simp only[dK];split
  ·exact ef _
  ·split
   ·exact ef _
   ·split<;>exact fun x hx=>by rw[lV.1 hx];exact hs b (by simp)
 have G6:(dK m (b::r)).at_+(dK m (b::r)).text.length<4000000000:=by rw[fR];omega
 refine⟨qo,aj,?_,?_,G6,?_⟩
 ·simp only[dK];by_cases h1:isLet b=true
  ·rw[if_pos h1];intro hw;refine⟨by simp,fun w kL he=>?_⟩;have h8:=VC w kL;rw[<-he]at h8;have:=yQ isLet (b::r);simp only[kD]at h8;by_cases h:8<runN isLet (b::r)
   ·omega
   ·simp[h]at hw
  ·rw[if_neg h1];by_cases h2:dI b=true
   ·rw[if_pos h2];intro hw;refine⟨by simp,fun w kL he=>?_⟩;have hr:0<runN dI (b::r):=by simp[runN,h2]
    obtain⟨k,hk⟩:∃k,runN dI (b::r)=k+1:=⟨_,(Nat.sub_add_cancel hr).symm⟩;dsimp only at he;rw[hk,pK]at he;have:=VB w kL b (by rw[<-he];rfl);rw[h2]at this;cases this
   ·rw[if_neg h2];by_cases h3:b∈eJ
    ·rw[if_pos h3];intro hw;simp at hw
    ·rw[if_neg h3];intro _;refine⟨by simp,fun w kL he=>?_⟩;rcases VD w kL b (by rw[<-he];rfl)with h|h
     ·exact h1 h
     ·exact h3 h
 ·simp only[dK];split
  ·intro h;cases h
  ·split
   ·intro h;cases h
   ·split
    ·rename_i h3;intro h;dsimp only at h;rw[h]at h3;exact absurd h3 (by decide)
    ·intro _;rfl
 ·simp only[dK];split
  ·intro h;cases h
  ·split
   ·rename_i h2;intro _ hw;refine⟨?_,afH dI (b::r)⟩;have:=yQ dI (b::r);simp only[kD];by_cases ha:1<runN dI (b::r)/\b=48
    ·have hw:(if 1<runN dI (b::r)/\b=48 then(m:Int)+1 else if 2<runN dI (b::r)then(m:Int)+2 else-1)<0:=hw;rw[if_pos ha]at hw;omega
    ·by_cases h:2<runN dI (b::r)
     ·have hw:(if 1<runN dI (b::r)/\b=48 then(m:Int)+1 else if 2<runN dI (b::r)then(m:Int)+2 else-1)<0:=hw;rw[if_neg ha,if_pos h]at hw;omega
     ·omega
   ·split
    ·rename_i h3;intro h;dsimp only at h;rw[h]at h3;exact absurd h3 (by decide)
    ·intro h;cases h
theorem agu{s:List Nat}(hs:dJ s)(hl:s.length<4000000000):∀t∈bG s,t.Ok:=by intro t ht;obtain⟨m,j,b,r,rfl,h2,h3⟩:=ags _ _ _ _ ht;have hlen:=congrArg mB h2;simp only[List.length_drop]at hlen;refine UU m b r (fun x hx=>hs x (List.mem_of_mem_drop (by rw[h2];exact hx))) ?_;simp only[List.length_cons]at*;omega
end Go.ab
namespace Go.ab.Tz
open Go.ab
variable{u:Nat}
attribute [local simp] exec eG eu fz aF d_ fQ fe bq gN bT gF gS hU hZ mD AV.cells newVar hH rd wr gg single fy bF er dL κ bf RV.get ba dU jy
theorem pE:dJ []:=fun b hb=>by cases hb
theorem vg(w:List Nat):shaped false 1 (.str w)=true:=rfl
theorem u6(m:Mem)(w:List Nat):m.ρ (.str w)= .str w:=rfl
theorem zx(x:ζ):x.four.take 4=x.four:=dY (by rw[x.fK];omega)
theorem AK(x:ζ):shaped true 4 (.agg x.four)=true:=by simp[shaped,x.fK]
theorem Ay(m:Mem)(x:ζ):m.ρ (.agg x.four)= .agg x.four:=by rw[<-ζ.gA];exact ζ.n_ x
theorem ζ.fx(x:ζ):x.Ok->Fx x.av:=by
 refine ζ.iB (Q:=fun x=>x.Ok->Fx x.av) (fun k n s c l ih h=>?_) x;simp only[ζ.Ok]at h;have hl:bJ (ζ.ψ l) (ζ.ψ l):=by rw[ζ.dZ];exact bJ.of ζ.av l fun y hy=>ih y hy (ζ.gb h.2 y hy)
 have:=Dv.list c hl;rw[fu h.1]at this;exact .agg (.cons (.int _ _) (.cons (.int _ _) (.cons (.str _) (.cons this .nil))))
theorem iL{x:ζ}(h:x.eD):bJ x.four x.four:=by have:=ζ.fx x h.1;rw[ζ.gA]at this;exact⟨by simpa only[pf]using this.1,by simpa only[gM,AV.agg.injEq]using this.2⟩
theorem bJ.rq{l ws:List AV}(h:bJ l ws)(m:Mem):m.ρ (.agg l)= .agg l:=(Dv.agg h).ρ
attribute [local simp] vg u6 zx AK Ay ζ.fK
theorem kQ{f:FuncId}{g:AF}{args:List AV}{B:List θ}{p:Nat}{cs ξ:List AV}{v:AV}(h1:(C u).jG f=none)(h2:(C u).fs f=some g)(h3:(C u).bD f=false)(hp:p<B.length)(hx:args.map (exp B.length false)=args)
  (hr:κ (C u).gl (aS (C u)) g.code {env:= .μ p 0::args,loc:=[],mem:= {ε:=B.set p (.cells cs),η:=[]}} fun r=>(∀i,r.1≠ .exit i)/\(∃bs,r.2.mem=(aY B p ξ bs []))/\∃l,bf r.2 g.results=some l/\ax r.2.mem.ε B.length 8 (ba l)=v) (T:List Nat):
  aS (C u) (.fn (.func f) [] []) (.μ p 0::args) {ε:=B.set p (.cells cs),η:=T}=some (v,{ε:=B.set p (.cells ξ),η:=T}):=by
 refine lO h1 h2 h3 (by simp) ?_;have dV:([]++(AV.μ p 0::args)++[]).map (exp (B.set p (θ.cells cs)).length false)= .μ p 0::args:=by simp only[cO,dx,ah,ft,hx,exp,hp,if_true]
 dsimp only;rw[dV,ft];exact hr
def Ei:ζ->AV->Prop:=fun x v=>v= .agg x.four/\x.eD
theorem _root_.Go.ab.ζ.eD.zy{x:ζ}(h:x.eD)(bs:List θ)(n:Nat):ax bs n 8 (.agg x.four)= .agg x.four:=by rw[<-ζ.gA];exact ζ.vK bs n 8 x h.1
theorem NT(m:Mem){X:List AV}(h:X.length=4)(hn:ρ (.agg X)= .agg X):gL m true 4 56 27 (.list .nil []) (.list .full [.agg X])=some (.list (.own m.ε.length) [.agg X],m.push (.front 1 4 27)):=by simp[gL,shaped,h,Mem.ρ,hn]
theorem NU(D:List θ)(T:List Nat){X Y:List AV}(h:X.length=4)(h':Y.length=4)(hn:ρ (.agg Y)= .agg Y):
  gL {ε:=D++[.front 1 4 27],η:=T} true 4 56 27 (.list (.own D.length) [.agg X]) (.list .full [.agg Y])=some (.list (.own D.length) [.agg X,.agg Y],{ε:=D++[.front 2 4 27],η:=T}):=by
 simp[gL,shaped,h,h',Mem.ρ,hn,Mem.put]
section
variable{s:List Nat}{all:List Tok}{c:Γ}{item:AV}(hl:all.length<1000000000)(Θ:∀t∈all,t.Ok)
include hl Θ
theorem Ti{B:List θ}{p:Nat}{cs:List AV}{a:RS}(hp:p<B.length)(h:cV s all c item cs a):
  ∃tk:Tok,(∀T,kf u 291 [.μ p 0] {ε:=B.set p (.cells cs),η:=T}=some (tk.a_,{ε:=B.set p (.cells cs),η:=T}))/\∀st,a= .r st->tk.text=st.hd/\tk.kind=st.kd/\tk.at_=st.at_ s.length:=by
 obtain⟨k,wr,rfl,hk,h⟩:=h;refine⟨qv s all k,fun T=>f291 B p hp k wr T hl,fun st ha=>?_⟩;subst ha;exact Mk h.2.1
theorem f315{k:Nat}(ih:∀a:RS,a.sz<k->iV u (cV s all c item) 296 [] (ai s.length k) Ei a)(a:RS)(ha:a.sz<k+1):iV u (cV s all c item) 315 [] (lC s.length (ai s.length k)) Ei a:=by
 intro B p cs hp h;obtain⟨tk,lR,qi⟩:=Ti (u:=u) hl Θ hp h;have dw:=fun T=>f268 (u:=u) [[40]] (by decide) hl hp h T;simp only[ah,aw,ah0,ah1,ah2]at dw;simp only[Tok.a_]at lR;cases hb:a.aD [40]with
 |true=>
  rw[hb]at dw
  have ji:=jL hb (by simp);obtain⟨_,x1,aW,a1,k1,r1,g1,rfl⟩:=f226 (u:=u) (item:=item) [40] hl Θ a B p cs hp h;have oO:=g1.take ji;obtain⟨_,x,aV,a2,k2,r2,g2,rfl,hx⟩:=ih a1 (by omega) B p aW hp r1;obtain⟨_,x3,aP,a3,k3,r3,g3,rfl⟩:=f226 (u:=u) (item:=item) [41] hl Θ a2 B p aV hp r2;refine⟨.agg x.four,x,aP,a3,kQ (g:=vN) rfl rfl rfl hp rfl ?_,r3,?_,rfl,hx⟩
  ·simp[vN,D3,aQ,lR,dw,k1,k2,k3];exact hx.zy _ _
  ·refine Δ.as (P:=fun t=>(ak s.length [40] t).bind fun _ t=>(ai s.length k t).bind fun x t=>(ak s.length [41] t).map fun _=>x) (g1.bind (g2.bind (g3.map fun _=>x))) fun t ht=>?_;subst ht;exact if_pos hb
 |false=>
  rw[hb]at dw
  have eI:∀st,a= .r st->st.aD [40]=false:=fun st hs=>by subst hs;exact hb
  have e0:dJ []:=fun b hb=>by cases hb
  by_cases hk:tk.kind=2
  ·obtain⟨_,n,aW,a1,k1,r1,g1,rfl,hn⟩:=f230 (u:=u) (item:=item) hl Θ a B p cs hp h;have hx:(ζ.mk 1 n [] .nil []).eD:=⟨⟨.inl rfl,trivial⟩,e0,trivial⟩;refine⟨.agg (ζ.mk 1 n [] .nil []).four,_,aW,a1,kQ (g:=vN) rfl rfl rfl hp rfl ?_,r1,?_,rfl,hx⟩
   ·have:=hx.zy (B.set p (.cells aW)) B.length;simp only[ζ.four,ζ.ψ]at this⊢;have dm:((tk.kind:Int)==2)=true:=beq_iff_eq.2 (by omega);simp[vN,D3,aQ,lR,dw,k1,dm,cX,this]
   ·refine Δ.as (P:=fun t=>(sQ s.length t).map fun n:Nat=>ζ.mk 1 (n:Int) [] .nil []) (g1.map _) fun t ht=>?_;simp[lC,eI t ht,<-(qi t ht).2.1,hk]
  ·obtain⟨_,x,aW,a1,k1,r1,g1,rfl,hn⟩:=f227 (u:=u) (item:=item) hl Θ a B p cs hp h;have hx:(ζ.mk 2 0 x .nil []).eD:=⟨⟨.inl rfl,trivial⟩,hn,trivial⟩;refine⟨.agg (ζ.mk 2 0 x .nil []).four,_,aW,a1,kQ (g:=vN) rfl rfl rfl hp rfl ?_,r1,?_,rfl,hx⟩
   ·have:=hx.zy (B.set p (.cells aW)) B.length;simp only[ζ.four,ζ.ψ]at this⊢;have dm:((tk.kind:Int)==2)=false:=beq_eq_false_iff_ne.2 (by omega);simp[vN,D3,aQ,lR,dw,k1,dm,cX,this]
   ·refine Δ.as (P:=fun t=>(fU s.length t).map fun n=>ζ.mk 2 0 n .nil []) (g1.map _) fun t ht=>?_;simp[lC,eI t ht,<-(qi t ht).2.1,hk]
theorem f308{k:Nat}(ih:∀a:RS,a.sz<k->iV u (cV s all c item) 296 [] (ai s.length k) Ei a)(a:RS)(ha:a.sz<k+1):iV u (cV s all c item) 308 [] (tY s.length (lC s.length (ai s.length k))) Ei a:=by
 intro B p cs hp h;have Dc:=fun a ha=>f315 (u:=u) hl Θ ih a ha;have jB:=BG s.length (fl s.length k);generalize hA:lC s.length (ai s.length k)=A at*;obtain⟨_,x1,aW,a1,k1,r1,g1,rfl,kM⟩:=Dc a ha B p cs hp h;have oO:=g1.sz jB;let F:ζ->PS->R ζ:=fun x t=>(ak s.length [42] t).bind fun _ t=>(A t).map fun y=> .mk 5 0 [] .any [x,y];let cc:PS->Bool:=fun t=>t.aD [42];suffices hm:∃x ξ b,(∀T,kf u 308 [.μ p 0] {ε:=B.set p (.cells cs),η:=T}=some (.agg x.four,{ε:=B.set p (.cells ξ),η:=T}))/\cV s all c item ξ b/\Δ (cK cc F (a1.sz+1) x1) a1 x b/\x.eD by obtain⟨x,ξ,b,m1,m2,m3,m4⟩:=hm;exact⟨_,x,ξ,b,m1,m2,g1.bind (Q:=fun x t=>cK cc F (t.l.length+1) x t) m3.fuel,rfl,m4⟩
 have dy:κ (C u).gl (aS (C u)) Pt {env:=[.μ p 0],loc:=[],mem:= {ε:=B.set p (.cells cs),η:=[]}} fun r=>(∀i,r.1≠ .exit i)/\∃L x ξ b,r.2.mem= {ε:=B.set p (.cells ξ),η:=[]}/\bq r.2.env 2= .Ω 2 0 0/\bT r.2.loc 2=some (0,.cells L)/\bJ L x.four/\cV s all c item ξ b/\Δ (cK cc F (a1.sz+1) x1) a1 x b/\x.eD:=by
  refine χ (fun st=>st.e 0= .μ p 0/\st.e 2= .Ω 2 0 0/\(∃z,st.q 2=some (0,.cells z)/\z.length=4)/\st.q 3=none/\st.mem= {ε:=B.set p (.cells cs),η:=[]}) (by simp[aQ]) fun s1 ⟨h1,h2,⟨z,h3,hz⟩,h4,h5⟩=>?_;let I:Nat->St->Prop:=fun i st=>st.e 0= .μ p 0/\st.e 2= .Ω 2 0 0/\(∃z,st.q 2=some (0,.cells z)/\z.length=4)/\st.e 3= .Ω 3 0 0/\∃L x ξ b,st.q 3=some (0,.cells L)/\st.mem= {ε:=B.set p (.cells ξ),η:=[]}/\bJ L x.four/\cV s all c item ξ b/\x.eD/\b.sz+i<=a1.sz∧
   ∀y b',Δ (cK cc F (a1.sz+1-i) x) b y b'->Δ (cK cc F (a1.sz+1) x1) a1 y b'
  refine χ (I 0) (by
   simp[aQ,h1,h2,h3,hz,h4,h5,k1]
   exact⟨by simp[h1],by simp[h2],⟨z,by simp[h3],hz⟩,by simp,x1.four,x1,aW,a1,by simp,rfl,iL kM,r1,kM,bQ _,fun _ _ h=>h⟩) fun s1 hI=>?_
  refine aZ (fun st=>st.e 2= .Ω 2 0 0/\(∃z,st.q 2=some (0,.cells z)/\z.length=4)/\st.e 3= .Ω 3 0 0/\∃L x ξ b,st.q 3=some (0,.cells L)/\st.mem= {ε:=B.set p (.cells ξ),η:=[]}/\bJ L x.four/\cV s all c item ξ b/\x.eD/\Δ (cK cc F (a1.sz+1) x1) a1 x b) ?_ fun s2 ⟨h2,⟨z,h3,hz⟩,h4,L,x,ξ,b,h5,h6,hL,h7,h8,h9⟩=>?_
  ·refine κ.block (κ.ki (I:=I) a1.sz hI fun i st hi τ=>?_);obtain⟨h1,h2,⟨z,h3,hz⟩,h4,L,x,ξ,b,h5,h6,hL,h7,h8,h9,aG⟩:=τ;have dw:=fun T=>f268 (u:=u) [[42]] (by decide) hl hp h7 T;simp only[ah,aw,ah0,ah1,ah2]at dw;unfold SY;have l_:a1.sz+1-i=(a1.sz-i)+1:=by omega
   rw[l_]at aG;cases hb:b.aD [42]with
   |false=>
    rw[hb]at dw
    refine κ.done (.exit 0) (fun st=>st.e 2= .Ω 2 0 0/\st.q 2=some (0,.cells z)/\st.e 3= .Ω 3 0 0/\st.q 3=some (0,.cells L)/\st.mem= {ε:=B.set p (.cells ξ),η:=[]}) (by simp[h1,h2,h3,h4,h5,h6,dw]) fun s' ⟨m1,m2,m3,m4,m5⟩=> .inr ⟨by simp,.inl ⟨rfl,.inl ⟨rfl,m1,⟨z,m2,hz⟩,m3,L,x,ξ,b,m4,m5,hL,h7,h8,aG x b (Δ.u3 hb)⟩⟩⟩
   |true=>
    rw[hb]at dw
    have ji:=jL hb (by simp);obtain⟨_,w,aV,b2,k2,r2,g2,rfl⟩:=f226 (u:=u) (item:=item) [42] hl Θ b B p ξ hp h7;have mf:=g2.take ji;obtain⟨_,y,aP,b3,k3,r3,g3,rfl,hy⟩:=Dc b2 (by omega) B p aV hp r2;have yd:=g3.sz jB;have hx:(ζ.mk 5 0 [] .any [x,y]).eD:=⟨⟨.inr rfl,h8.1,hy.1,trivial⟩,pE,h8.2,hy.2,trivial⟩;have eh:L.length=4:=by rw[hL.len,x.fK]
    have eH:L.take 4=L:=dY (by omega);have dv:shaped true 4 (.agg L)=true:=by simp[shaped,eh]
    have xL:bJ [.n 5,.n 0,.str [],.list .full [.agg L,.agg y.four]] (ζ.mk 5 0 [] .any [x,y]).four:=by simp only[ζ.four,ζ.ψ,ζ.gA];exact .cons (.int _ _) (.cons (.int _ _) (.cons (.str _) (.cons (.list .full (.cons (.agg hL) (.cons (.agg (iL hy)) .nil))) .nil)))
    refine κ.done .normal (fun st=>st.e 0= .μ p 0/\st.e 2= .Ω 2 0 0/\st.q 2=some (0,.cells z)/\st.e 3= .Ω 3 0 0/\st.q 3=some (0,.cells [.n 5,.n 0,.str [],.list .full [.agg L,.agg y.four]])/\st.mem= {ε:=B.set p (.cells aP),η:=[]}) (by simp[h1,h2,h3,h4,h5,h6,dw,k2,k3,cX,b_,cj,dG,eh,eH,dv,bJ.rq hL]) fun s' ⟨m1,m2,m3,m4,m5,m6⟩=> .inl ⟨rfl,by omega,m1,m2,⟨z,m3,hz⟩,m4,_,_,aP,b3,m5,m6,xL,r3,hx,by omega,fun y' b' hg=>aG y' b' (Δ.u4 hb (g2.bind (g3.map _)) (by rw[show a1.sz+1-(i+1)=a1.sz-i by omega]at hg;exact hg))⟩
  ·have eh:L.length=4:=by rw[hL.len,x.fK]
   have eH:L.take 4=L:=dY (by omega);refine κ.done .ret (fun st=>st.e 2= .Ω 2 0 0/\st.q 2=some (0,.cells L)/\st.mem= {ε:=B.set p (.cells ξ),η:=[]}) (by simp[h2,h3,h4,h5,h6,hz,eh,eH]) fun s' ⟨m1,m2,m3⟩=>⟨by simp,L,x,ξ,b,m3,m1,m2,hL,h7,h9,h8⟩
 obtain⟨r,e1,e2,L,x,ξ,b,e3,e4,e5,hL,e6,e7,e8⟩:=dy;have eh:L.length=4:=by rw[hL.len,x.fK]
 have eH:L.take 4=L:=dY (by omega);exact⟨x,ξ,b,kQ (g:=Gt) rfl rfl rfl hp rfl ⟨r,e1,e2,⟨[],by simp[e3]⟩,[.agg L],by simp[Gt,e4,e5,eh,eH],(Dv.agg hL).ax _ _ _⟩,e6,e7,e8⟩
theorem f296{k:Nat}(ih:∀a:RS,a.sz<k->iV u (cV s all c item) 296 [] (ai s.length k) Ei a)(a:RS)(ha:a.sz<k+1):iV u (cV s all c item) 296 [] (ai s.length (k+1)) Ei a:=by
 intro B p cs hp h;have Dc:=fun a ha=>f308 (u:=u) hl Θ ih a ha;have jB:=JF s.length (BG s.length (fl s.length k));show∃v x ξ b,_/\_/\Δ (AR s.length (tY s.length (lC s.length (ai s.length k)))) a x b/\_;generalize hA:tY s.length (lC s.length (ai s.length k))=A at*;obtain⟨_,x1,aW,a1,k1,r1,g1,rfl,kM⟩:=Dc a ha B p cs hp h;have oO:=g1.sz jB;let F:ζ->PS->R ζ:=fun x t=>(ak s.length t.hd t).bind fun w t=>(A t).map fun y=> .mk (if w=[45]then 4 else 3) 0 [] .any [x,y];let cc:PS->Bool:=fun t=>t.aD [43]||t.aD [45];suffices hm:∃x ξ b,(∀T,kf u 296 [.μ p 0] {ε:=B.set p (.cells cs),η:=T}=some (.agg x.four,{ε:=B.set p (.cells ξ),η:=T}))/\cV s all c item ξ b/\Δ (cK cc F (a1.sz+1) x1) a1 x b/\x.eD by obtain⟨x,ξ,b,m1,m2,m3,m4⟩:=hm;exact⟨_,x,ξ,b,m1,m2,g1.bind (Q:=fun x t=>cK cc F (t.l.length+1) x t) m3.fuel,rfl,m4⟩
 have dy:κ (C u).gl (aS (C u)) Pp {env:=[.μ p 0],loc:=[],mem:= {ε:=B.set p (.cells cs),η:=[]}} fun r=>(∀i,r.1≠ .exit i)/\∃L x ξ b,r.2.mem= {ε:=B.set p (.cells ξ),η:=[]}/\bq r.2.env 2= .Ω 2 0 0/\bT r.2.loc 2=some (0,.cells L)/\bJ L x.four/\cV s all c item ξ b/\Δ (cK cc F (a1.sz+1) x1) a1 x b/\x.eD:=by
  refine χ (fun st=>st.e 0= .μ p 0/\st.e 2= .Ω 2 0 0/\(∃z,st.q 2=some (0,.cells z)/\z.length=4)/\st.q 3=none/\st.mem= {ε:=B.set p (.cells cs),η:=[]}) (by simp[aQ]) fun s1 ⟨h1,h2,⟨z,h3,hz⟩,h4,h5⟩=>?_;let I:Nat->St->Prop:=fun i st=>st.e 0= .μ p 0/\st.e 2= .Ω 2 0 0/\(∃z,st.q 2=some (0,.cells z)/\z.length=4)/\st.e 3= .Ω 3 0 0/\∃L x ξ b,st.q 3=some (0,.cells L)/\st.mem= {ε:=B.set p (.cells ξ),η:=[]}/\bJ L x.four/\cV s all c item ξ b/\x.eD/\b.sz+i<=a1.sz∧
   ∀y b',Δ (cK cc F (a1.sz+1-i) x) b y b'->Δ (cK cc F (a1.sz+1) x1) a1 y b'
  refine χ (I 0) (by
   simp[aQ,h1,h2,h3,hz,h4,h5,k1]
   exact⟨by simp[h1],by simp[h2],⟨z,by simp[h3],hz⟩,by simp,x1.four,x1,aW,a1,by simp,rfl,iL kM,r1,kM,bQ _,fun _ _ h=>h⟩) fun s1 hI=>?_
  refine aZ (fun st=>st.e 2= .Ω 2 0 0/\(∃z,st.q 2=some (0,.cells z)/\z.length=4)/\st.e 3= .Ω 3 0 0/\∃L x ξ b,st.q 3=some (0,.cells L)/\st.mem= {ε:=B.set p (.cells ξ),η:=[]}/\bJ L x.four/\cV s all c item ξ b/\x.eD/\Δ (cK cc F (a1.sz+1) x1) a1 x b) ?_ fun s2 ⟨h2,⟨z,h3,hz⟩,h4,L,x,ξ,b,h5,h6,hL,h7,h8,h9⟩=>?_
  ·refine κ.block (κ.ki (I:=I) a1.sz hI fun i st hi τ=>?_);obtain⟨h1,h2,⟨z,h3,hz⟩,h4,L,x,ξ,b,h5,h6,hL,h7,h8,h9,aG⟩:=τ;have dw:=fun T=>f268 (u:=u) [[43],[45]] (by decide) hl hp h7 T;have jH:=fun T=>f268 (u:=u) [[45]] (by decide) hl hp h7 T;simp only[ah,aw,ah0,ah1,ah2]at dw jH;unfold SV;have l_:a1.sz+1-i=(a1.sz-i)+1:=by omega
   rw[l_]at aG;have jd:b.rX cc=(b.aD [43]||b.aD [45]):=by cases b<;>rfl
   cases hb:(b.aD [43]||b.aD [45])with
   |false=>
    rw[hb]at dw
    refine κ.done (.exit 0) (fun st=>st.e 2= .Ω 2 0 0/\st.q 2=some (0,.cells z)/\st.e 3= .Ω 3 0 0/\st.q 3=some (0,.cells L)/\st.mem= {ε:=B.set p (.cells ξ),η:=[]}) (by simp[h1,h2,h3,h4,h5,h6,dw]) fun s' ⟨m1,m2,m3,m4,m5⟩=> .inr ⟨by simp,.inl ⟨rfl,.inl ⟨rfl,m1,⟨z,m2,hz⟩,m3,L,x,ξ,b,m4,m5,hL,h7,h8,aG x b (Δ.u3 (jd.trans hb))⟩⟩⟩
   |true=>
    rw[hb]at dw
    have ji:0<b.sz:=by
     rcases Bool.or_eq_true_iff.1 hb with h|h
     ·exact jL h (by simp)
     ·exact jL h (by simp)
    obtain⟨tk,lR,qi⟩:=Ti (u:=u) hl Θ hp h7;simp only[Tok.a_]at lR;have ZA:tk.text=b.hd:=by
     cases b with
     |w w=>cases hb
     |r st=>exact(qi st rfl).1
    obtain⟨_,w,aV,b2,k2,r2,g2,rfl⟩:=f226 (u:=u) (item:=item) tk.text hl Θ b B p ξ hp h7;have mf:=g2.take ji;obtain⟨_,y,aP,b3,k3,r3,g3,rfl,hy⟩:=Dc b2 (by omega) B p aV hp r2;have yd:=g3.sz jB;have eh:L.length=4:=by rw[hL.len,x.fK]
    have eH:L.take 4=L:=dY (by omega);have dv:shaped true 4 (.agg L)=true:=by simp[shaped,eh]
    have iN:b.aD [45]=decide (b.hd=[45]):=by
     cases b with
     |w w=>cases hb
     |r st=>by_cases h:st.hd=[45]<;>simp[RS.aD,RS.rX,PS.aD,RS.hd,h]
    have step:∀K:Int,K=(if b.hd=[45]then 4 else 3)->Δ (F x) b (.mk K 0 [] .any [x,y]) b3:=fun K hK=>by subst hK;rw[ZA]at g2;exact Δ.as (P:=fun t=>(ak s.length b.hd t).bind fun w t=>(A t).map fun y=>ζ.mk (if w=[45]then 4 else 3) 0 [] .any [x,y]) (Δ.word (Q:=fun w t=>(A t).map fun y=>ζ.mk (if w=[45]then 4 else 3) 0 [] .any [x,y]) g2 (g3.map _)) fun t ht=>by subst ht;rfl
    have go:∀K:Int,K=(if b.hd=[45]then 4 else 3)->∀s':St,s'.e 0= .μ p 0/\s'.e 2= .Ω 2 0 0/\s'.q 2=some (0,.cells z)/\s'.e 3= .Ω 3 0 0/\s'.q 3=some (0,.cells [.n K,.n 0,.str [],.list .full [.agg L,.agg y.four]])/\s'.mem= {ε:=B.set p (.cells aP),η:=[]}->i<a1.sz/\I (i+1) s':=fun K hK s' ⟨m1,m2,m3,m4,m5,m6⟩=>by
     have hx:(ζ.mk K 0 [] .any [x,y]).eD:=⟨⟨.inr rfl,h8.1,hy.1,trivial⟩,pE,h8.2,hy.2,trivial⟩;have xL:bJ [.n K,.n 0,.str [],.list .full [.agg L,.agg y.four]] (ζ.mk K 0 [] .any [x,y]).four:=by simp only[ζ.four,ζ.ψ,ζ.gA];exact .cons (.int _ _) (.cons (.int _ _) (.cons (.str _) (.cons (.list .full (.cons (.agg hL) (.cons (.agg (iL hy)) .nil))) .nil)))
     exact⟨by omega,m1,m2,⟨z,m3,hz⟩,m4,_,_,aP,b3,m5,m6,xL,r3,hx,by omega,fun y' b' hg=>aG y' b' (Δ.u4 (jd.trans hb) (step K hK) (by rw[show a1.sz+1-(i+1)=a1.sz-i by omega]at hg;exact hg))⟩
    rw[iN]at jH;by_cases hm:b.hd=[45]
    ·rw[decide_eq_true hm]at jH;refine κ.done .normal (fun st=>st.e 0= .μ p 0/\st.e 2= .Ω 2 0 0/\st.q 2=some (0,.cells z)/\st.e 3= .Ω 3 0 0/\st.q 3=some (0,.cells [.n 4,.n 0,.str [],.list .full [.agg L,.agg y.four]])/\st.mem= {ε:=B.set p (.cells aP),η:=[]}) (by simp[h1,h2,h3,h4,h5,h6,dw,jH,lR,k2,k3,cX,b_,cj,dG,eh,eH,dv,bJ.rq hL]) fun s' h=> .inl ⟨rfl,go 4 (by rw[if_pos hm]) s' h⟩
    ·rw[decide_eq_false hm]at jH;refine κ.done .normal (fun st=>st.e 0= .μ p 0/\st.e 2= .Ω 2 0 0/\st.q 2=some (0,.cells z)/\st.e 3= .Ω 3 0 0/\st.q 3=some (0,.cells [.n 3,.n 0,.str [],.list .full [.agg L,.agg y.four]])/\st.mem= {ε:=B.set p (.cells aP),η:=[]}) (by simp[h1,h2,h3,h4,h5,h6,dw,jH,lR,k2,k3,cX,b_,cj,dG,eh,eH,dv,bJ.rq hL]) fun s' h=> .inl ⟨rfl,go 3 (by rw[if_neg hm]) s' h⟩
  ·have eh:L.length=4:=by rw[hL.len,x.fK]
   have eH:L.take 4=L:=dY (by omega);refine κ.done .ret (fun st=>st.e 2= .Ω 2 0 0/\st.q 2=some (0,.cells L)/\st.mem= {ε:=B.set p (.cells ξ),η:=[]}) (by simp[h2,h3,h4,h5,h6,hz,eh,eH]) fun s' ⟨m1,m2,m3⟩=>⟨by simp,L,x,ξ,b,m3,m1,m2,hL,h7,h9,h8⟩
 obtain⟨r,e1,e2,L,x,ξ,b,e3,e4,e5,hL,e6,e7,e8⟩:=dy;have eh:L.length=4:=by rw[hL.len,x.fK]
 have eH:L.take 4=L:=dY (by omega);exact⟨x,ξ,b,kQ (g:=Gp) rfl rfl rfl hp rfl ⟨r,e1,e2,⟨[],by simp[e3]⟩,[.agg L],by simp[Gp,e4,e5,eh,eH],(Dv.agg hL).ax _ _ _⟩,e6,e7,e8⟩
theorem An:∀(k:Nat) (a:RS),a.sz<k->iV u (cV s all c item) 296 [] (ai s.length k) Ei a
 |0,_,h=>by omega
 |k+1,a,h=>f296 hl Θ (fun a h=>An k a h) a h
theorem f295{k:Nat}(a:RS)(ha:a.sz<k):iV u (cV s all c item) 295 [] (sX s.length (ai s.length k)) (fun x v=>v= .aO [.str x.1,.agg x.2.four]/\dJ x.1/\x.2.eD) a:=by intro B p cs hp h;obtain⟨_,n,aW,a1,k1,r1,g1,rfl,hn⟩:=f227 (u:=u) (item:=item) hl Θ a B p cs hp h;have s1:=g1.sz (jx _);obtain⟨_,w1,aV,a2,k2,r2,g2,rfl⟩:=f226 (u:=u) (item:=item) [91] hl Θ a1 B p aW hp r1;have s2:=g2.sz (cI _ _);obtain⟨_,x,aP,a3,k3,r3,g3,rfl,hx⟩:=An (u:=u) (item:=item) hl Θ k a2 (by omega) B p aV hp r2;obtain⟨_,w2,dT,a4,k4,r4,g4,rfl⟩:=f226 (u:=u) (item:=item) [93] hl Θ a3 B p aP hp r3;refine⟨_,(n,x),dT,a4,kQ (g:=Gn) rfl rfl rfl hp rfl ?_,r4,g1.bind (Q:=fun n s'=>(ak s.length [91] s').bind fun _ s'=>(ai s.length k s').bind fun x s'=>(ak s.length [93] s').map fun _=>(n,x)) (g2.bind (Q:=fun _ s'=>(ai s.length k s').bind fun x s'=>(ak s.length [93] s').map fun _=>(n,x)) (g3.bind (Q:=fun x s'=>(ak s.length [93] s').map fun _=>(n,x)) (g4.map fun _=>(n,x)))),rfl,hn,hx⟩;simp[Gn,Po,aQ,k1,k2,k3,k4];exact(Dv.aO (.cons (.str n) (.cons (.agg (iL hx)) .nil))).ax _ _ _
def Ep:φ->AV->Prop:=fun x v=>v=x.av/\x.Ok
theorem f309{k:Nat}(a:RS)(ha:a.sz<k):iV u (cV s all c item) 309 [] (gQ s.length (ai s.length k)) Ep a:=by
 intro B p cs hp h;obtain⟨_,n,aW,a1,k1,r1,g1,rfl,hn⟩:=f227 (u:=u) (item:=item) hl Θ a B p cs hp h;have s1:=g1.sz (jx _);have dw:=fun T=>f268 (u:=u) [[91]] (by decide) hl hp r1 T;simp only[ah,aw,ah0,ah1,ah2]at dw;cases hb:a1.aD [91]with
 |false=>
  rw[hb]at dw
  have eI:∀st,a1= .r st->st.aD [91]=false:=fun st hs=>by subst hs;exact hb
  refine⟨_,⟨n,.nil,[]⟩,aW,a1,kQ (g:=vM) rfl rfl rfl hp rfl ?_,r1,g1.bind (Δ.as (Δ.pure _ _) fun st hs=>by simp[eI st hs]),rfl,hn,.inl rfl,by simp⟩;simp[vM,D2,aQ,k1,dw,cX];rfl
 |true=>
  rw[hb]at dw
  obtain⟨_,w1,aV,a2,k2,r2,g2,rfl⟩:=f226 (u:=u) (item:=item) [91] hl Θ a1 B p aW hp r1;have s2:=g2.sz (cI _ _);obtain⟨_,x,aP,a3,k3,r3,g3,rfl,hx⟩:=An (u:=u) (item:=item) hl Θ k a2 (by omega) B p aV hp r2;have s3:=g3.sz (fl _ _);have e0:∀i cs,(B++[θ.front i 4 27]).set p (.cells cs)=B.set p (.cells cs)++[.front i 4 27]:=fun i cs=>lW _ _ hp;have nx:∀i,p<(B++[θ.front i 4 27]).length:=fun i=>by simp;omega
  have jH:=fun T=>f268 (u:=u) (B:=B++[.front 1 4 27]) [[58]] (by decide) hl (nx 1) r3 T;simp only[ah,aw,ah0,ah1,ah2,e0]at jH;have qX:=fun T=>NT {ε:=B.set p (.cells aP),η:=T} x.fK (Dv.agg (iL hx)).ρ;simp only[ft,Mem.push]at qX;cases dt:a3.aD [58]with
  |false=>
   rw[dt]at jH
   have eI:∀st,a3= .r st->st.aD [58]=false:=fun st hs=>by subst hs;exact dt
   obtain⟨_,w2,dT,a4,k4,r4,g4,rfl⟩:=f226 (u:=u) (item:=item) [93] hl Θ a3 (B++[.front 1 4 27]) p aP (nx 1) r3;simp only[e0]at k4;have cm:(⟨n,.any,[x]⟩:φ).Ok:=⟨hn,.inr rfl,by simpa using hx⟩;refine⟨_,⟨n,.any,[x]⟩,dT,a4,kQ (g:=vM) rfl rfl rfl hp rfl ?_,r4,?_,rfl,cm⟩
   ·simp[vM,D2,aQ,k1,k2,k3,k4,dw,jH,cX,qX,b_,cj,dG];exact(Dv.agg (.cons (.str n) (.cons (.list _ (.cons (.agg (iL hx)) .nil)) .nil))).ax _ _ _|>.trans (by simp[φ.av,ζ.gA,Γ.exp])
   ·refine g1.bind (Δ.as (P:=fun t=>(ak s.length [91] t).bind fun _ t=>(ai s.length k t).bind fun x t=>(if t.aD [58]then(ak s.length [58] t).bind fun _ t=>(ai s.length k t).map fun y=>[x,y]else .ok [x] t).bind fun l t=>(ak s.length [93] t).map fun _=>⟨n,.any,l⟩) ?_ fun st hs=>by subst hs;exact if_pos hb);exact g2.bind (g3.bind (Δ.bind (Δ.as (Δ.pure [x] a3) fun st hs=>by simp[eI st hs]) (g4.map fun _=>_)))
  |true=>
   rw[dt]at jH
   obtain⟨_,w2,dT,a4,k4,r4,g4,rfl⟩:=f226 (u:=u) (item:=item) [58] hl Θ a3 (B++[.front 1 4 27]) p aP (nx 1) r3;have s4:=g4.sz (cI _ _);obtain⟨_,y,ie,a5,k5,r5,g5,rfl,hy⟩:=An (u:=u) (item:=item) hl Θ k a4 (by omega) (B++[.front 1 4 27]) p dT (nx 1) r4;obtain⟨_,w3,ox,a6,k6,r6,g6,rfl⟩:=f226 (u:=u) (item:=item) [93] hl Θ a5 (B++[.front 2 4 27]) p ie (nx 2) r5;simp only[e0]at k4 k5 k6;have uC:=fun T=>NU (B.set p (.cells ie)) T x.fK y.fK (Dv.agg (iL hy)).ρ;simp only[ft]at uC;have cm:(⟨n,.any,[x,y]⟩:φ).Ok:=⟨hn,.inr rfl,by simpa using⟨hx,hy⟩⟩;refine⟨_,⟨n,.any,[x,y]⟩,ox,a6,kQ (g:=vM) rfl rfl rfl hp rfl ?_,r6,?_,rfl,cm⟩
   ·simp[vM,D2,aQ,k1,k2,k3,k4,k5,k6,dw,jH,cX,qX,uC,b_,cj,dG];exact(Dv.agg (.cons (.str n) (.cons (.list _ (.cons (.agg (iL hx)) (.cons (.agg (iL hy)) .nil))) .nil))).ax _ _ _|>.trans (by simp[φ.av,ζ.gA,Γ.exp])
   ·refine g1.bind (Δ.as (P:=fun t=>(ak s.length [91] t).bind fun _ t=>(ai s.length k t).bind fun x t=>(if t.aD [58]then(ak s.length [58] t).bind fun _ t=>(ai s.length k t).map fun y=>[x,y]else .ok [x] t).bind fun l t=>(ak s.length [93] t).map fun _=>⟨n,.any,l⟩) ?_ fun st hs=>by subst hs;exact if_pos hb);exact g2.bind (g3.bind (Δ.bind (Δ.as (P:=fun t=>(ak s.length [58] t).bind fun _ t=>(ai s.length k t).map fun y=>[x,y]) (g4.bind (g5.map fun y=>[x,y])) fun st hs=>by subst hs;exact if_pos dt) (g6.map fun _=>_)))
end
end Go.ab.Tz
