import Derived.Test.YtiigojkfojnedaaGreatDoorQHm
set_option linter.unusedVariables false
set_option linter.unusedSimpArgs false
set_option linter.unusedSectionVars false
set_option maxRecDepth 100000
set_option maxHeartbeats 8000000
open List renaming mem_cons->dO,length_append->fu,length_cons->eZ,length_nil->lK,mem_map->jy,length_map->dd,getElem?_eq_getElem->dr
open Nat renaming add_mul->kM,mul_le_mul_right->rG,lt_or_ge->bP
namespace Go.ah.Tz
open Go.ah
variable{u:Nat}
attribute [local simp] exec ed dP eX aC dQ ft eL ζ gg τ fW gy gH gI AV.cells newVar gE rd wr fK single eV bY ek dF μ aY RV.get aV dB iE
def pd{α:Type}(l:List α):χ:=match l with
 |[]=> .nil
 |_=> .any
def _root_.Go.ah.Γ.copy(p:Γ):Γ:=⟨p.name,pd p.ix,ny p.ix⟩
mutual
def _root_.Go.ah.δ.copy:δ->δ
 | .mk k g nm _ pl size to _ body _ aG=> .mk k g nm (pd pl) (pl.map Γ.copy) size.copy to.copy (pd body) (l6 body) (pd aG) (l6 aG)
def l6:List δ->List δ
 |[]=>[]
 |s::l=>s.copy::l6 l
end
def _root_.Go.ah.Ξ.copy(p:Ξ):Ξ:=⟨p.name,p.cp,p.aK,pd p.body,l6 p.body⟩
def CY(l:List Ξ):List Ξ:=l.map Ξ.copy
theorem afX(l:List δ):l6 l=l.map δ.copy:=by
 induction l with
 |nil=>rfl
 |cons a l ih=>simp[l6,ih]
theorem Lv.ix(n:Nat)(x:η)(h:x.Ok):Lv n x.av x.av:=⟨fun bs=>η.vH bs n 8 x h,η.nO x⟩
structure mM (n:Nat) (bs:List κ) (sz:Nat) (e:TypeId) (c:χ) (len:Nat):Prop where
 r:Row n bs sz e c len
 n:len=0->c= .nil
theorem mM.exp{α:Type}{n:Nat}{bs:List κ}{sz:Nat}{e:TypeId}{c:χ}{l:List α}(h:mM n bs sz e c l.length):c.exp n false=pd l:=by
 cases l with
 |nil=>rw[h.n rfl];rfl
 |cons a l=>exact h.r.El (by simp)
theorem mM.nil{n:Nat}{bs:List κ}{sz:Nat}{e:TypeId}:mM n bs sz e .nil 0:=⟨Row.nil,fun _=>rfl⟩
end Go.ah.Tz
namespace Go.ah
def paren(b:Bool)(s:List Nat):List Nat:=if b then 40::(s++[41])else s
def Ai(k:Int):List Nat:=if k=3 then[32,43,32]else if k=4 then[32,45,32]else[32,42,32]
def sD(k:Int):Bool:=decide (k=3)||decide (k=4)
def η.kind:η->Int
 | .mk k _ _ _ _=>k
def CD(k n:Int)(s:List Nat)(ks:List Int)(ts:List (List Nat)):List Nat:=
 if k=1 then uu n.toNat else if k=2 then s else
  match ks,ts with
  |[ka,kb],[ta,tb]=>paren (decide (k=5)&&sD ka) ta++Ai k++paren (if k=5 then decide (3<=kb)else sD kb) tb
  |_,_=>[]
mutual
def η.text:η->List Nat
 | .mk k n s _ l=>CD k n s (l.map η.kind) (η.texts l)
def η.texts:List η->List (List Nat)
 |[]=>[]
 |x::l=>x.text::η.texts l
end
mutual
def η.ml:η->Prop
 | .mk k n s _ l=>gr k n l.length=0/\(k=2->s.length<=8)/\η.Dz l
def η.Dz:List η->Prop
 |[]=>True
 |x::l=>x.ml/\η.Dz l
end
theorem η.TS{l:List η}(h:η.Dz l):∀x∈l,x.ml:=by
 induction l with
 |nil=>intro x hx;cases hx
 |cons a l ih=>
  intro x hx
  rcases dO.1 hx with rfl|hx
  ·exact h.1
  ·exact ih h.2 x hx
theorem η.aeI{may:List Nat->Bool}{no:Int}(eS:no≠0)(hm:∀s,may s=true->s.length<=8)(x:η):x.part may no=0->x.ml:=by
 refine η.jY (Q:=fun x=>x.part may no=0->x.ml) (fun k n s c l ih h=>?_) x;simp only[η.part]at h;split at h
 ·contradiction
 ·rename_i h0;split at h
  ·exact absurd h eS
  ·rename_i h2;refine⟨by simpa using h0,fun hk=>?_,?_⟩
   ·cases hb:may s with
    |true=>exact hm s hb
    |false=>exact absurd ⟨hk,hb⟩ h2
   ·induction l with
    |nil=>trivial
    |cons a l zZ=>
     simp only[η.parts]at h
     split at h
     ·contradiction
     ·rename_i ha;refine⟨ih a (by simp) (by simpa using ha),?_⟩;have go:∀l:List η,(∀y∈l,y.part may no=0->y.ml)->η.parts may no l=0->η.Dz l:=by
       intro l;induction l with
       |nil=>intro _ _;trivial
       |cons b l kT=>
        intro h1 h2
        simp only[η.parts]at h2;split at h2
        ·contradiction
        ·rename_i hb;exact⟨h1 b (by simp) (by simpa using hb),kT (fun y hy=>h1 y (by simp[hy])) h2⟩
      exact go l (fun y hy=>ih y (by simp[hy])) h
theorem D8(n:Nat):(uu n).length<=2:=by unfold uu;split<;>simp
theorem HI(b:Bool)(s:List Nat):(paren b s).length<=s.length+2:=by unfold paren;split<;>simp
theorem adO(k:Int):(Ai k).length=3:=by unfold Ai;split<;>(try split)<;>rfl
theorem η.sU(x:η):x.ml->x.text.length<=13*x.cnt:=by
 refine η.jY (Q:=fun x=>x.ml->x.text.length<=13*x.cnt) (fun k n s c l ih h=>?_) x;simp only[η.ml]at h;obtain⟨h1,h2,h3⟩:=h;simp only[η.text,η.cnt,CD];split
 ·have:=D8 n.toNat;omega
 ·split
  ·rename_i hk;have:=h2 hk;omega
  ·match l with
   |[]=>simp
   |[a]=>simp
   |[a,b]=>
    have ha:=ih a (by simp) (η.TS h3 a (by simp))
    have hb:=ih b (by simp) (η.TS h3 b (by simp));have p1:=HI (decide (k=5)&&sD a.kind) a.text;have p2:=HI (if k=5 then decide (3<=b.kind)else sD b.kind) b.text;have p3:=adO k;simp only[List.map_cons,List.map_nil,η.texts,fu,η.bj];omega
   |a::b::c::l=>simp[η.texts]
def oH:List (List Nat)->List Nat
 |[]=>[]
 |[x]=>x
 |x::l=>x++[44,32]++oH l
def Γ.text(p:Γ):List Nat:=match p.ix with
 |[]=>p.name
 |[a]=>p.name++[91]++a.text++[93]
 |a::b::_=>p.name++[91]++a.text++[32,58,32]++b.text++[93]
def p_(l:List Γ):List Nat:=oH (l.map Γ.text)
def Γ.ml(p:Γ):Prop:=p.name.length<=8/\p.ix.length<=2/\∀x∈p.ix,x.ml/\x.cnt<=9
theorem Γ.sU(p:Γ)(h:p.ml):p.text.length<=250:=by
 obtain⟨nm,c,ix⟩:=p;obtain⟨h1,h2,h3⟩:=h;simp only at h1 h2 h3
 match ix with
 |[]=>simp[Γ.text];omega
 |[a]=>
  obtain⟨a1,a2⟩:=h3 a (by simp)
  have:=η.sU a a1;simp[Γ.text];omega
 |[a,b]=>
  obtain⟨a1,a2⟩:=h3 a (by simp)
  obtain⟨b1,b2⟩:=h3 b (by simp);have:=η.sU a a1;have:=η.sU b b1;simp[Γ.text];omega
 |a::b::c::l=>simp at h2
theorem I6(l:List (List Nat))(n:Nat)(h:∀x∈l,x.length<=n):(oH l).length<=l.length*(n+2):=by
 induction l with
 |nil=>simp[oH]
 |cons a l ih=>
  have ha:=h a (by simp)
  have hl:=ih fun x hx=>h x (by simp[hx]);cases l with
  |nil=>simp[oH];omega
  |cons b l=>
   simp only[oH,fu,eZ,lK]at hl⊢
   have:(l.length+1+1)*(n+2)=(l.length+1)*(n+2)+(n+2):=by rw[kM (l.length+1)];omega
   omega
def lq:List Nat:=[32,32]
def dv(k g:Int)(nm:List Nat)(pl:List Γ)(size to:η):List Nat:=
 if k=1 then bu.getD (g-1).toNat []++[32]++p_ pl
 else if k=2 then[116,97,107,101,32]++nm++[91]++size.text++[93]
 else if k=3 then[100,114,111,112,32]++nm
 else if k=4 then[98,111,114,114,111,119,32]++nm++[91]++size.text++[93]
 else if k=5 then[109,101,97,115,117,114,101,32]++p_ pl++[32,58,32]++nm
 else if k=6 then[114,101,115,101,116,32]++p_ pl
 else if k=7 then[105,102,32]++nm
 else if k=8 then[102,111,114,32]++nm++[32,61,32]++size.text++[32,58,32]++to.text
 else if k=9 then nm++[40]++p_ pl++[41]
 else if k=10 then[117,110,100,111]
 else[119,105,116,104,105,110]
def yY(k:Int):List Nat:=if k=7 then[101,108,115,101]else[97,112,112,108,121]
mutual
def dN:List δ->List Nat->List Nat
 |[],_=>[]
 |s::l,b=>q_ s b++dN l b
def q_:δ->List Nat->List Nat
 | .mk k g nm _ pl size to _ body _ aG,b=>b++dv k g nm pl size to++
   (if dh k=false then[59,10]
    else[32,123,10]++dN body (b++lq)++
    (if de k=true/\¬(k=7/\aG.length=0)then b++[125,32]++yY k++[32,123,10]++dN aG (b++lq)else[])++b++[125,10])
end
def aI.text(p:aI):List Nat:=p.name++[91]++uu p.size.toNat++[93]
def Ξ.text(p:Ξ):List Nat:=[112,114,111,99,32]++p.name++[40]++oH (p.aK.map aI.text)++[41,32,123,10]++dN p.body lq++[125,10]
def kU:List Ξ->List Nat
 |[]=>[]
 |p::l=>p.text++kU l
def uU(x:η):Prop:=x.ml/\x.cnt<=9
def C2(pl:List Γ):Prop:=pl.length<=4/\∀p∈pl,p.ml
def zK(k g:Int)(nm:List Nat)(pl:List Γ)(size to:η):Prop:=
 (1<=k/\k<=11)/\(k=1->1<=g/\g<=12)/\(k=2\/k=3\/k=4\/k=5\/k=7\/k=8\/k=9->nm.length<=8)∧
 (k=1\/k=5\/k=6\/k=9->C2 pl)/\(k=2\/k=4\/k=8->uU size)/\(k=8->uU to)
mutual
def δ.R:δ->Prop
 | .mk k g nm _ pl size to _ body _ aG=>zK k g nm pl size to/\(dh k=true->δ.Rs body)/\(de k=true->δ.Rs aG)
def δ.Rs:List δ->Prop
 |[]=>True
 |s::l=>s.R/\δ.Rs l
end
theorem δ.afv{l:List δ}(h:δ.Rs l):∀x∈l,x.R:=by
 induction l with
 |nil=>intro x hx;cases hx
 |cons a l ih=>
  intro x hx
  rcases dO.1 hx with rfl|hx
  ·exact h.1
  ·exact ih h.2 x hx
theorem u4{l:List Γ}(h:C2 l):(p_ l).length<=1008:=by
 have:=I6 (l.map Γ.text) 250 (fun x hx=>by
  obtain⟨p,hp,rfl⟩:=jy.1 hx
  exact Γ.sU p (h.2 p hp))
 have h4:=h.1;rw[dd]at this;have:l.length*252<=4*252:=rG _ h4;unfold p_;omega
theorem qX{x:η}(h:uU x):x.text.length<=117:=by have:=η.sU x h.1;have:=h.2;omega
theorem XA(n:Nat):(bu.getD n []).length<=4:=by
 match n with
 |0|1|2|3|4|5|6|7|8|9|10|11=>decide
 |n+12=>simp[bu]
theorem QK{k g:Int}{nm:List Nat}{pl:List Γ}{size to:η}(h:zK k g nm pl size to):(dv k g nm pl size to).length<=1100:=by
 obtain⟨h0,h1,h2,h3,h4,h5⟩:=h;have hk:k=1\/k=2\/k=3\/k=4\/k=5\/k=6\/k=7\/k=8\/k=9\/k=10\/k=11:=by omega
 rcases hk with rfl|rfl|rfl|rfl|rfl|rfl|rfl|rfl|rfl|rfl|rfl
 ·have:=u4 (h3 (by simp));have:=XA (g-1).toNat;simp[dv];simp at this;omega
 ·have:=qX (h4 (by simp));have:=h2 (by simp);simp[dv];omega
 ·have:=h2 (by simp);simp[dv];omega
 ·have:=qX (h4 (by simp));have:=h2 (by simp);simp[dv];omega
 ·have:=u4 (h3 (by simp));have:=h2 (by simp);simp[dv];omega
 ·have:=u4 (h3 (by simp));simp[dv];omega
 ·have:=h2 (by simp);simp[dv];omega
 ·have:=qX (h4 (by simp));have:=qX (h5 rfl);have:=h2 (by simp);simp[dv];omega
 ·have:=u4 (h3 (by simp));have:=h2 (by simp);simp[dv];omega
 ·simp[dv]
 ·simp[dv]
theorem Vr(k:Int):(yY k).length<=5:=by unfold yY;split<;>simp
theorem Sq(D:Nat)(l:List δ):∀b,δ.Rs l->b.length+2*δ.cM l<=D->(dN l b).length<=δ.bj l*(3*D+1200):=by
 refine δ.lists (P:=fun l=>∀b,δ.Rs l->b.length+2*δ.cM l<=D->(dN l b).length<=δ.bj l*(3*D+1200)) (fun l ih b hR hD=>?_) l;induction l with
 |nil=>simp[dN]
 |cons s l zZ=>
  have hs:=ih s (by simp)
  have h2:=zZ (fun y hy=>ih y (by simp[hy])) hR.2 (by simp only[δ.cM]at hD;omega);obtain⟨k,g,nm,cp,pl,size,to,cb,body,ce,aG⟩:=s;obtain⟨hh,hb,he⟩:=hR.1;have hl:=QK hh;have xH:=Vr k;simp only[δ.cM,δ.deep]at hD;simp only[δ.body,δ.aG]at hs;simp only[dN,q_,fu,δ.bj,δ.cnt,kM,Nat.one_mul];have eQ:(b++lq).length=b.length+2:=by simp[lq]
  cases hk:dh k with
  |false=>
   have v_:de k=false:=by simp only[dh,de,decide_eq_false_iff_not]at hk⊢;omega
   simp[hk,v_];omega
  |true=>
   simp only[hk,if_true]at hD
   have h3:=hs.1 (b++lq) (hb hk) (by rw[eQ];omega);cases v_:de k with
   |false=>simp[hk,v_];omega
   |true=>
    simp only[v_,if_true]at hD
    have h4:=hs.2 (b++lq) (he v_) (by rw[eQ];omega);simp only[hk,v_,if_true];by_cases hx:k=7/\aG.length=0
    ·rw[if_neg (by simp),if_neg (by simp[hx])];simp;omega
    ·rw[if_neg (by simp),if_pos ⟨trivial,hx⟩];simp;omega
end Go.ah
namespace Go.ah.Tz
open Go.ah
theorem PV{α:Type}{f:α->Int}{l:List α}(h:first f l=0):∀x∈l,f x=0:=by
 induction l with
 |nil=>intro x hx;cases hx
 |cons a l ih=>
  simp only[first]at h
  split at h
  ·contradiction
  ·rename_i h0;intro x hx;rcases dO.1 hx with rfl|hx
   ·simpa using h0
   ·exact ih h x hx
theorem Ej{L:bq}(hL:kL L){x:η}(h:x.err (cC L) 1=0):uU x:=by
 unfold η.err at h;split at h
 ·cases h
 ·rename_i h9;refine⟨η.aeI (no:=1) (by decide) (fun s hs=>hL s ?_) x h,by omega⟩;simp only[cC,decide_eq_true_eq]at hs;rw[hs];exact fun h=>by cases h
theorem Ml{L:bq}(hL:kL L){p:Γ}(h:b_ L p=0):p.ml:=by
 unfold b_ at h;split at h
 ·cases h
 ·rename_i h1;split at h
  ·cases h
  ·rename_i h2;refine⟨hL _ fun he=>h1 (by rw[he];rfl),by omega,fun x hx=>?_⟩;have:=Ej hL (PV h x hx);exact this
theorem yr{L:bq}{s:List Nat}(h:dV L s=0):s.length<=8:=L_ (CT h).1
def Dr(ps:List Ξ)(own:Nat):Prop:=∀n q,n<own->ps[n]?=some q->q.name.length<=8/\q.aK.length<=4
theorem aeV{ps:List Ξ}{s:List Nat}{n:Nat}(h:nQ ps s=some n):∃q,ps[n]?=some q/\q.name=s:=by rw[nQ,List.findIdx?_eq_some_iff_getElem]at h;obtain⟨h1,h2,_⟩:=h;exact⟨ps[n],dr h1,by simpa using h2⟩
theorem af'{ps:List Ξ}{own:Nat}{L:bq}(hL:kL L)(hb:Dr ps own){k g:Int}{nm:List Nat}{cp:χ}{pl:List Γ}{size to:η}{cb ce:χ}{body aG:List δ}
  (h:cJ ps own L (.mk k g nm cp pl size to cb body ce aG)=0):zK k g nm pl size to:=by
 have bW:first (b_ L) pl=0->pl.length<=4->C2 pl:=fun h1 h2=>⟨h2,fun p hp=>Ml hL (PV h1 p hp)⟩
 simp only[cJ]at h;split at h
 ·rename_i hk;subst hk;split at h
  ·cases h
  ·rename_i hg;split at h
   ·cases h
   ·rename_i ha;have:gS g<=3:=by unfold gS;split<;>(try split)<;>omega
    refine⟨by omega,fun _=>by omega,by omega,fun _=>bW h (by omega),by omega,by omega⟩
 ·rename_i h_;split at h
  ·rename_i hk;split at h
   ·contradiction
   ·rename_i hn;have qR:dV L nm=0:=by simpa using hn
    have:=yr qR;exact⟨by omega,by omega,fun _=>this,by omega,fun _=>Ej hL h,by omega⟩
  ·rename_i eF;split at h
   ·rename_i hk;subst hk;split at h
    ·contradiction
    ·rename_i hn;have qR:dV L nm=0:=by simpa using hn
     have:=yr qR;split at h
     ·contradiction
     ·rename_i hs;exact⟨by omega,by omega,fun _=>this,by omega,fun _=>Ej hL (by simpa using hs),fun _=>Ej hL h⟩
   ·rename_i uK;split at h
    ·rename_i hk;subst hk;refine⟨by omega,by omega,fun _=>hL nm fun he=>?_,by omega,by omega,by omega⟩;rw[he]at h;cases h
    ·rename_i jH;split at h
     ·rename_i hk;subst hk;split at h
      ·rename_i p;split at h
       ·contradiction
       ·rename_i hp;have mV:b_ L p=0:=by simpa using hp
        refine⟨by omega,by omega,fun _=>?_,fun _=>⟨by simp,fun q hq=>?_⟩,by omega,by omega⟩
        ·split at h
         ·rename_i uD;exact hL nm (by rw[uD];exact fun h=>by cases h)
         ·exact yr h
        ·simp at hq;subst hq;exact Ml hL mV
      ·cases h
     ·rename_i jI;split at h
      ·rename_i hk;subst hk;split at h
       ·rename_i p;refine⟨by omega,by omega,by omega,fun _=>⟨by simp,fun q hq=>?_⟩,by omega,by omega⟩;simp at hq;subst hq;exact Ml hL h
       ·cases h
      ·rename_i uI;split at h
       ·rename_i hk;subst hk;refine⟨by omega,by omega,fun _=>hL nm fun he=>?_,by omega,by omega,by omega⟩;rw[he]at h;simp at h
       ·rename_i uJ;split at h
        ·rename_i hk;subst hk;split at h
         ·cases h
         ·rename_i n hn;split at h
          ·cases h
          ·rename_i ρ;obtain⟨q,hq,Cq⟩:=aeV hn;rw[hq]at h;have:=hb n q (by omega) hq;dsimp only at h;split at h
           ·cases h
           ·rename_i hl;refine⟨by omega,by omega,fun _=>by rw[<-Cq];exact this.1,fun _=>bW h (by omega),by omega,by omega⟩
        ·split at h
         ·rename_i uL hk;refine⟨by omega,by omega,by omega,by omega,by omega,by omega⟩
         ·cases h
theorem MP{ps:List Ξ}{own:Nat}{L:bq}{x:δ}(h:cJ ps own L x=0)(hk:x.kind=2\/x.kind=4\/x.kind=8):dV L x.name=0:=by rw[qi]at h;rcases hk with hk|hk|hk<;>simp[hk]at h<;>split at h<;>first|assumption|(rename_i hn;exact absurd h hn)
theorem aaA{ps:List Ξ}{own:Nat}{L:bq}(hL:kL L){x:δ}(h:cJ ps own L x=0):kL (inside L x.kind x.name):=by
 by_cases h4:x.kind=4
 ·have:inside L x.kind x.name=L.inner.put x.name (.nf false):=by simp[inside,h4]
  rw[this];exact hL.inner.put (yr (MP h (by omega))) _
 by_cases h8:x.kind=8
 ·have:inside L x.kind x.name=L.inner.put x.name .Dp:=by simp[inside,h8]
  rw[this];exact hL.inner.put (yr (MP h (by omega))) _
 ·have:inside L x.kind x.name=L.inner:=by simp[inside,h4,h8]
  rw[this];exact hL.inner
theorem UQ{ps:List Ξ}{own:Nat}{L:bq}(hL:kL L){x:δ}(h:cJ ps own L x=0):kL (after L x.kind x.name):=by
 by_cases h2:x.kind=2
 ·have:after L x.kind x.name=L.put x.name (.nf true):=by simp[after,h2]
  rw[this];exact hL.put (yr (MP h (by omega))) _
 by_cases h3:x.kind=3
 ·have:after L x.kind x.name=L.put x.name .none:=by simp[after,h3]
  rw[this];exact hL.del _
 by_cases h5:x.kind=5
 ·have:after L x.kind x.name=L.put x.name .bit:=by simp[after,h5]
  rw[this];refine hL.put ?_ _;rw[qi]at h;simp[h5]at h;split at h
  ·split at h
   ·split at h
    ·rename_i uD;exact hL _ (by rw[uD];exact fun h=>by cases h)
    ·exact yr h
   ·contradiction
  ·cases h
 ·have:after L x.kind x.name=L:=by simp[after,h2,h3,h5]
  rw[this];exact hL
theorem Vy{ps:List Ξ}{own:Nat}(hb:Dr ps own)(l:List δ):∀L,kL L->du ps own l L=0->δ.Rs l:=by
 refine δ.lists (P:=fun l=>∀L,kL L->du ps own l L=0->δ.Rs l) (fun l ih L hL h=>?_) l;induction l generalizing L with
 |nil=>trivial
 |cons s l zZ=>
  simp only[du]at h
  split at h
  ·contradiction
  ·rename_i h0;have vP:cJ ps own L s=0:=by simpa using h0
   split at h
   ·contradiction
   ·rename_i h1;have fF:sB ps own s L=0:=by simpa using h1
    refine⟨?_,zZ (fun y hy=>ih y (by simp[hy])) _ (UQ hL vP) h⟩;have hi:=aaA hL vP;have hs:=ih s (by simp);obtain⟨k,g,nm,cp,pl,size,to,cb,body,ce,aG⟩:=s;simp only[δ.body,δ.aG]at hs;simp only[δ.kind,δ.name]at hi;refine⟨af' hL hb vP,fun hk=>?_,fun hk=>?_⟩
    ·simp only[sB,hk,if_true]at fF;split at fF
     ·contradiction
     ·rename_i h2;exact hs.1 _ hi (by simpa using h2)
    ·have uM:dh k=true:=by simp only[dh,de,decide_eq_true_eq]at hk⊢;omega
     simp only[sB,hk,uM,if_true]at fF;split at fF
     ·contradiction
     ·exact hs.2 _ hi fF
structure AW (x:Ξ):Prop where
 name:x.name.length<=8
 aK:x.aK.length<=4
 par:∀p∈x.aK,p.name.length<=8/\1<=p.size/\p.size<=12
 body:δ.Rs x.body
 bj:δ.bj x.body<=120
 cM:δ.cM x.body<=6
theorem aeC(l:List aI):∀L,kL L->nP l L=0->(∀p∈l,p.name.length<=8/\1<=p.size/\p.size<=12)/\kL (lG l L):=by
 induction l with
 |nil=>intro L hL _;exact⟨fun p hp=>(by cases hp),hL⟩
 |cons x l ih=>
  intro L hL h
  simp only[nP]at h;split at h
  ·cases h
  ·rename_i h1;split at h
   ·cases h
   ·rename_i h2;split at h
    ·cases h
    ·have hn:x.name.length<=8:=L_ (by simpa using h1);obtain⟨a,b⟩:=ih _ (hL.put hn _) h;refine⟨fun p hp=>?_,b⟩;rcases dO.1 hp with rfl|hp
     ·exact⟨hn,by omega⟩
     ·exact a p hp
theorem adB:kL jN:=fun _ h=>absurd rfl h
theorem aeT{ps:List Ξ}{own:Nat}{x:Ξ}(hb:Dr ps own)(h:sK ps own x=0):AW x:=by
 unfold sK at h;split at h
 ·cases h
 ·rename_i h1;split at h
  ·cases h
  ·split at h
   ·cases h
   ·rename_i h3;split at h
    ·contradiction
    ·rename_i h4;split at h
     ·cases h
     ·rename_i h5;split at h
      ·cases h
      ·rename_i h6;obtain⟨a,b⟩:=aeC x.aK jN adB (by simpa using h4);exact⟨L_ (by simpa using h1),by omega,a,Vy hb _ _ b h,by omega,by omega⟩
theorem aeX(ps:List Ξ):∀k,Dr ps k->o8 ps k (ps.drop k)=0->∀n q,k<=n->ps[n]?=some q->AW q:=by
 intro k;induction hd:ps.length-k generalizing k with
 |zero=>
  intro _ _ n q hn hq
  rw[List.getElem?_eq_none (by omega)]at hq;cases hq
 |succ d ih=>
  intro hb h n q hn hq
  have hk:k<ps.length:=by omega
  rw[List.drop_eq_getElem_cons hk]at h;simp only[o8]at h;split at h
  ·contradiction
  ·rename_i h0;have hr:=aeT hb (by simpa using h0);rcases bP k n with ρ|cG
   ·refine ih (k+1) (by omega) (fun m q' hm x5=>?_) h n q ρ hq;rcases bP m k with h2|h2
    ·exact hb m q' h2 x5
    ·have:m=k:=by omega
     subst this;rw[dr hk]at x5;cases x5;exact⟨hr.name,hr.aK⟩
   ·have:n=k:=by omega
    subst this;rw[dr hk]at hq;cases hq;exact hr
theorem Wa{ps:List Ξ}(h:ko ps=0):ps.length<=12/\∀q∈ps,AW q:=by
 unfold ko at h;split at h
 ·cases h
 ·rename_i h1;refine⟨by omega,fun q hq=>?_⟩;obtain⟨n,hn,rfl⟩:=List.getElem_of_mem hq;exact aeX ps 0 (fun n q hn=>by omega) (by simpa using h) n _ (by omega) (dr hn)
theorem Ξ.sU{x:Ξ}(h:AW x):x.text.length<=200000:=by
 have h1:=Sq 20 x.body lq h.body (by have:=h.cM;simp[lq];omega);have h2:δ.bj x.body*(3*20+1200)<=120*(3*20+1200):=rG _ h.bj;have h3:=I6 (x.aK.map aI.text) 12 (fun t ht=>by
  obtain⟨p,hp,rfl⟩:=jy.1 ht
  have:=(h.par p hp).1;have:=D8 p.size.toNat;simp[aI.text];omega)
 rw[dd]at h3;have h4:x.aK.length*(12+2)<=4*(12+2):=rG _ h.aK;have:=h.name;simp only[Ξ.text,fu,eZ,lK];omega
theorem η.Wm(x:η):x.copy.kind=x.kind:=by cases x;rfl
theorem η.I7(x:η):x.copy.text=x.text:=by
 refine η.jY (Q:=fun x=>x.copy.text=x.text) (fun k n s c l ih=>?_) x;have h1:η.texts (ny l)=η.texts l:=by
  clear c;induction l with
  |nil=>rfl
  |cons a l kT=>simp only[ny,η.texts,ih a (by simp),kT fun y hy=>ih y (by simp[hy])]
 have h2:(ny l).map η.kind=l.map η.kind:=by rw[Wi,List.map_map];exact List.map_congr_left fun y _=>η.Wm y
 simp only[η.copy,η.text,h1,h2]
theorem Γ.I7(p:Γ):p.copy.text=p.text:=by
 obtain⟨nm,c,ix⟩:=p
 match ix with
 |[]=>rfl
 |[a]=>simp[Γ.copy,Γ.text,ny,η.I7]
 |a::b::l=>simp[Γ.copy,Γ.text,ny,η.I7]
end Go.ah.Tz
