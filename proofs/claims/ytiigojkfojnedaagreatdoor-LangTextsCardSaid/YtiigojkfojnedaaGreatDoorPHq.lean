import Derived.Test.YtiigojkfojnedaaGreatDoorPHm
set_option linter.unusedVariables false
set_option linter.unusedSimpArgs false
set_option linter.unusedSectionVars false
set_option maxRecDepth 100000
set_option maxHeartbeats 8000000
open List renaming mem_map->jv,mem_cons->dX,length_append->dB,length_cons->dO,length_nil->fq,length_map->dq,getElem?_eq_getElem->eo
open Nat renaming add_mul->kV,mul_le_mul_right->rQ,lt_or_ge->bP
namespace Go.ab.Tz
open Go.ab
variable{u:Nat}
attribute [local simp] exec eG eu fz aF d_ fQ fe bq gN bT gF gS hU hZ AV.cells newVar hH rd wr gg single fy bF er dL κ bf RV.get ba dU jy
def kp{α:Type}(l:List α):Γ:=match l with
 |[]=> .nil
 |_=> .any
theorem vE{α:Type}(l:List α):aJ (kp l):=by
 cases l
 ·exact .inl rfl
 ·exact .inr rfl
def _root_.Go.ab.φ.copy(p:φ):φ:=⟨p.name,kp p.ix,gU p.ix⟩
mutual
def _root_.Go.ab.δ.copy:δ->δ
 | .mk k g nm _ pl size to _ body _ aA=> .mk k g nm (kp pl) (pl.map φ.copy) size.copy to.copy (kp body) (gI body) (kp aA) (gI aA)
def gI:List δ->List δ
 |[]=>[]
 |s::l=>s.copy::gI l
end
def _root_.Go.ab.ω.copy(p:ω):ω:=⟨p.name,p.cp,p.ay,kp p.body,gI p.body⟩
def wU(l:List ω):List ω:=l.map ω.copy
theorem M6(l:List δ):gI l=l.map δ.copy:=by
 induction l with
 |nil=>rfl
 |cons a l ih=>simp[gI,ih]
theorem M7(l:List δ):(gI l).length=l.length:=by rw[M6];simp
theorem Lv.ix(n:Nat)(x:ζ)(h:x.Ok):Lv n x.av x.av:=⟨fun bs=>ζ.vK bs n 8 x h,ζ.n_ x⟩
theorem φ.Jk(p:φ):p.copy.av= .agg [.str p.name,.list (kp p.ix) (ζ.ψ (gU p.ix))]:=by simp[φ.copy,φ.av,ζ.dZ]
structure mZ (n:Nat) (bs:List θ) (sz:Nat) (e:TypeId) (c:Γ) (len:Nat):Prop where
 r:Row n bs sz e c len
 n:len=0->c= .nil
theorem mZ.exp{α:Type}{n:Nat}{bs:List θ}{sz:Nat}{e:TypeId}{c:Γ}{l:List α}(h:mZ n bs sz e c l.length):c.exp n false=kp l:=by
 cases l with
 |nil=>rw[h.n rfl];rfl
 |cons a l=>exact h.r.Ey (by simp)
theorem mZ.nil{n:Nat}{bs:List θ}{sz:Nat}{e:TypeId}:mZ n bs sz e .nil 0:=⟨Row.nil,fun _=>rfl⟩
theorem TS(p:φ)(h:p.Ok):p.copy.Ok:=by
 have hs:∀x:ζ,x.lz->x.copy.lz:=by
  intro x;refine ζ.iB (Q:=fun x=>x.lz->x.copy.lz) (fun k n s c l ih h=>?_) x;refine⟨h.1,?_⟩;have:∀l:List ζ,(∀y∈l,y.lz->y.copy.lz)->ζ.Strs l->ζ.Strs (gU l):=by
   intro l;induction l with
   |nil=>intro _ _;trivial
   |cons a l gq=>exact fun h1 h2=>⟨h1 a (by simp) h2.1,gq (fun y hy=>h1 y (by simp[hy])) h2.2⟩
  exact this l ih h.2
 refine⟨h.1,vE _,fun x hx=>?_⟩;have fS:x∈p.ix.map ζ.copy:=by rw[<-Br];exact hx
 obtain⟨y,hy,rfl⟩:=jv.1 fS;exact⟨Ec y,hs y (h.2.2 y hy).2⟩
theorem Sa(x:ζ):x.lz->x.copy.lz:=by
 refine ζ.iB (Q:=fun x=>x.lz->x.copy.lz) (fun k n s c l ih h=>?_) x;refine⟨h.1,?_⟩;have:∀l:List ζ,(∀y∈l,y.lz->y.copy.lz)->ζ.Strs l->ζ.Strs (gU l):=by
  intro l;induction l with
  |nil=>intro _ _;trivial
  |cons a l gq=>exact fun h1 h2=>⟨h1 a (by simp) h2.1,gq (fun y hy=>h1 y (by simp[hy])) h2.2⟩
 exact this l ih h.2
theorem UE(l:List δ):δ.cW l->δ.cW (gI l):=by
 refine δ.lists (P:=fun l=>δ.cW l->δ.cW (gI l)) (fun l ih h=>?_) l;induction l with
 |nil=>trivial
 |cons a l wC=>
  have ha:=ih a (by simp)
  refine⟨?_,wC (fun y hy=>ih y (by simp[hy])) h.2⟩;obtain⟨k,g,nm,cp,pl,size,to,cb,body,ce,aA⟩:=a;have h1:=h.1;simp only[δ.Ok]at h1;simp only[δ.body,δ.aA]at ha;obtain⟨a1,a2,a3,a4,a5,a6,a7,a8,a9⟩:=h1;refine⟨a1,vE _,fun p hp=>?_,⟨Ec _,Sa _ a4.2⟩,⟨Ec _,Sa _ a5.2⟩,vE _,ha.1 a7,vE _,ha.2 a9⟩;obtain⟨q,hq,rfl⟩:=jv.1 hp;exact TS q (a3 q hq)
theorem ae3(p:ω)(h:p.Ok):p.copy.Ok:=⟨h.1,h.2.1,h.2.2.1,vE _,UE _ h.2.2.2.2.1,h.2.2.2.2.2⟩
theorem aeZ(ps:List ω)(h:∀x∈ps,x.Ok):∀x∈wU ps,x.Ok:=by intro x hx;obtain⟨p,hp,rfl⟩:=jv.1 hx;exact ae3 p (h p hp)
end Go.ab.Tz
namespace Go.ab
def paren(b:Bool)(s:List Nat):List Nat:=if b then 40::(s++[41])else s
def oS(k:Int):List Nat:=if k=3 then[32,43,32]else if k=4 then[32,45,32]else[32,42,32]
def lM(k:Int):Bool:=decide (k=3)||decide (k=4)
def ζ.kind:ζ->Int
 | .mk k _ _ _ _=>k
def wF(k n:Int)(s:List Nat)(ks:List Int)(ts:List (List Nat)):List Nat:=
 if k=1 then nf n.toNat else if k=2 then s else
  match ks,ts with
  |[ka,kb],[ta,tb]=>paren (decide (k=5)&&lM ka) ta++oS k++paren (if k=5 then decide (3<=kb)else lM kb) tb
  |_,_=>[]
mutual
def ζ.text:ζ->List Nat
 | .mk k n s _ l=>wF k n s (l.map ζ.kind) (ζ.texts l)
def ζ.texts:List ζ->List (List Nat)
 |[]=>[]
 |x::l=>x.text::ζ.texts l
end
mutual
def ζ.kW:ζ->Prop
 | .mk k n s _ l=>gy k n l.length=0/\(k=2->s.length<=8)/\ζ.DD l
def ζ.DD:List ζ->Prop
 |[]=>True
 |x::l=>x.kW/\ζ.DD l
end
theorem ζ.UJ{l:List ζ}(h:ζ.DD l):∀x∈l,x.kW:=by
 induction l with
 |nil=>intro x hx;cases hx
 |cons a l ih=>
  intro x hx
  rcases dX.1 hx with rfl|hx
  ·exact h.1
  ·exact ih h.2 x hx
theorem ζ.aeX{may:List Nat->Bool}{no:Int}(eI:no≠0)(hm:∀s,may s=true->s.length<=8)(x:ζ):x.part may no=0->x.kW:=by
 refine ζ.iB (Q:=fun x=>x.part may no=0->x.kW) (fun k n s c l ih h=>?_) x;simp only[ζ.part]at h;split at h
 ·contradiction
 ·rename_i h0;split at h
  ·exact absurd h eI
  ·rename_i h2;refine⟨by simpa using h0,fun hk=>?_,?_⟩
   ·cases hb:may s with
    |true=>exact hm s hb
    |false=>exact absurd ⟨hk,hb⟩ h2
   ·induction l with
    |nil=>trivial
    |cons a l wC=>
     simp only[ζ.parts]at h
     split at h
     ·contradiction
     ·rename_i ha;refine⟨ih a (by simp) (by simpa using ha),?_⟩;have go:∀l:List ζ,(∀y∈l,y.part may no=0->y.kW)->ζ.parts may no l=0->ζ.DD l:=by
       intro l;induction l with
       |nil=>intro _ _;trivial
       |cons b l gq=>
        intro h1 h2
        simp only[ζ.parts]at h2;split at h2
        ·contradiction
        ·rename_i hb;exact⟨h1 b (by simp) (by simpa using hb),gq (fun y hy=>h1 y (by simp[hy])) h2⟩
      exact go l (fun y hy=>ih y (by simp[hy])) h
theorem Bu(n:Nat):(nf n).length<=2:=by unfold nf;split<;>simp
theorem AA(b:Bool)(s:List Nat):(paren b s).length<=s.length+2:=by unfold paren;split<;>simp
theorem ad4(k:Int):(oS k).length=3:=by unfold oS;split<;>(try split)<;>rfl
theorem ζ.oU(x:ζ):x.kW->x.text.length<=13*x.cnt:=by
 refine ζ.iB (Q:=fun x=>x.kW->x.text.length<=13*x.cnt) (fun k n s c l ih h=>?_) x;simp only[ζ.kW]at h;obtain⟨h1,h2,h3⟩:=h;simp only[ζ.text,ζ.cnt,wF];split
 ·have:=Bu n.toNat;omega
 ·split
  ·rename_i hk;have:=h2 hk;omega
  ·match l with
   |[]=>simp
   |[a]=>simp
   |[a,b]=>
    have ha:=ih a (by simp) (ζ.UJ h3 a (by simp))
    have hb:=ih b (by simp) (ζ.UJ h3 b (by simp));have p1:=AA (decide (k=5)&&lM a.kind) a.text;have p2:=AA (if k=5 then decide (3<=b.kind)else lM b.kind) b.text;have p3:=ad4 k;simp only[List.map_cons,List.map_nil,ζ.texts,dB,ζ.aU];omega
   |a::b::c::l=>simp[ζ.texts]
def iJ:List (List Nat)->List Nat
 |[]=>[]
 |[x]=>x
 |x::l=>x++[44,32]++iJ l
def φ.text(p:φ):List Nat:=match p.ix with
 |[]=>p.name
 |[a]=>p.name++[91]++a.text++[93]
 |a::b::_=>p.name++[91]++a.text++[32,58,32]++b.text++[93]
def jr(l:List φ):List Nat:=iJ (l.map φ.text)
def φ.kW(p:φ):Prop:=p.name.length<=8/\p.ix.length<=2/\∀x∈p.ix,x.kW/\x.cnt<=9
theorem φ.oU(p:φ)(h:p.kW):p.text.length<=250:=by
 obtain⟨nm,c,ix⟩:=p;obtain⟨h1,h2,h3⟩:=h;simp only at h1 h2 h3
 match ix with
 |[]=>simp[φ.text];omega
 |[a]=>
  obtain⟨a1,a2⟩:=h3 a (by simp)
  have:=ζ.oU a a1;simp[φ.text];omega
 |[a,b]=>
  obtain⟨a1,a2⟩:=h3 a (by simp)
  obtain⟨b1,b2⟩:=h3 b (by simp);have:=ζ.oU a a1;have:=ζ.oU b b1;simp[φ.text];omega
 |a::b::c::l=>simp at h2
theorem Jj(l:List (List Nat))(n:Nat)(h:∀x∈l,x.length<=n):(iJ l).length<=l.length*(n+2):=by
 induction l with
 |nil=>simp[iJ]
 |cons a l ih=>
  have ha:=h a (by simp)
  have hl:=ih fun x hx=>h x (by simp[hx]);cases l with
  |nil=>simp[iJ];omega
  |cons b l=>
   simp only[iJ,dB,dO,fq]at hl⊢
   have:(l.length+1+1)*(n+2)=(l.length+1)*(n+2)+(n+2):=by rw[kV (l.length+1)];omega
   omega
def kE:List Nat:=[32,32]
def da(k g:Int)(nm:List Nat)(pl:List φ)(size to:ζ):List Nat:=
 if k=1 then bu.getD (g-1).toNat []++[32]++jr pl
 else if k=2 then[116,97,107,101,32]++nm++[91]++size.text++[93]
 else if k=3 then[100,114,111,112,32]++nm
 else if k=4 then[98,111,114,114,111,119,32]++nm++[91]++size.text++[93]
 else if k=5 then[109,101,97,115,117,114,101,32]++jr pl++[32,58,32]++nm
 else if k=6 then[114,101,115,101,116,32]++jr pl
 else if k=7 then[105,102,32]++nm
 else if k=8 then[102,111,114,32]++nm++[32,61,32]++size.text++[32,58,32]++to.text
 else if k=9 then nm++[40]++jr pl++[41]
 else if k=10 then[117,110,100,111]
 else[119,105,116,104,105,110]
def mE(k:Int):List Nat:=if k=7 then[101,108,115,101]else[97,112,112,108,121]
mutual
def de:List δ->List Nat->List Nat
 |[],_=>[]
 |s::l,b=>oQ s b++de l b
def oQ:δ->List Nat->List Nat
 | .mk k g nm _ pl size to _ body _ aA,b=>b++da k g nm pl size to++
   (if cg k=false then[59,10]
    else[32,123,10]++de body (b++kE)++
    (if cB k=true/\¬(k=7/\aA.length=0)then b++[125,32]++mE k++[32,123,10]++de aA (b++kE)else[])++b++[125,10])
end
def aC.text(p:aC):List Nat:=p.name++[91]++nf p.size.toNat++[93]
def ω.text(p:ω):List Nat:=[112,114,111,99,32]++p.name++[40]++iJ (p.ay.map aC.text)++[41,32,123,10]++de p.body kE++[125,10]
def gu:List ω->List Nat
 |[]=>[]
 |p::l=>p.text++gu l
def rk(x:ζ):Prop:=x.kW/\x.cnt<=9
def yL(pl:List φ):Prop:=pl.length<=4/\∀p∈pl,p.kW
def zT(k g:Int)(nm:List Nat)(pl:List φ)(size to:ζ):Prop:=
 (1<=k/\k<=11)/\(k=1->1<=g/\g<=12)/\(k=2\/k=3\/k=4\/k=5\/k=7\/k=8\/k=9->nm.length<=8)∧
 (k=1\/k=5\/k=6\/k=9->yL pl)/\(k=2\/k=4\/k=8->rk size)/\(k=8->rk to)
mutual
def δ.R:δ->Prop
 | .mk k g nm _ pl size to _ body _ aA=>zT k g nm pl size to/\(cg k=true->δ.Rs body)/\(cB k=true->δ.Rs aA)
def δ.Rs:List δ->Prop
 |[]=>True
 |s::l=>s.R/\δ.Rs l
end
theorem δ.Uy{l:List δ}(h:δ.Rs l):∀x∈l,x.R:=by
 induction l with
 |nil=>intro x hx;cases hx
 |cons a l ih=>
  intro x hx
  rcases dX.1 hx with rfl|hx
  ·exact h.1
  ·exact ih h.2 x hx
theorem sR{l:List φ}(h:yL l):(jr l).length<=1008:=by
 have:=Jj (l.map φ.text) 250 (fun x hx=>by
  obtain⟨p,hp,rfl⟩:=jv.1 hx
  exact φ.oU p (h.2 p hp))
 have h4:=h.1;rw[dq]at this;have:l.length*252<=4*252:=rQ _ h4;unfold jr;omega
theorem nD{x:ζ}(h:rk x):x.text.length<=117:=by have:=ζ.oU x h.1;have:=h.2;omega
theorem QI(n:Nat):(bu.getD n []).length<=4:=by
 match n with
 |0|1|2|3|4|5|6|7|8|9|10|11=>decide
 |n+12=>simp[bu]
theorem Rj{k g:Int}{nm:List Nat}{pl:List φ}{size to:ζ}(h:zT k g nm pl size to):(da k g nm pl size to).length<=1100:=by
 obtain⟨h0,h1,h2,h3,h4,h5⟩:=h;have hk:k=1\/k=2\/k=3\/k=4\/k=5\/k=6\/k=7\/k=8\/k=9\/k=10\/k=11:=by omega
 rcases hk with rfl|rfl|rfl|rfl|rfl|rfl|rfl|rfl|rfl|rfl|rfl
 ·have:=sR (h3 (by simp));have:=QI (g-1).toNat;simp[da];simp at this;omega
 ·have:=nD (h4 (by simp));have:=h2 (by simp);simp[da];omega
 ·have:=h2 (by simp);simp[da];omega
 ·have:=nD (h4 (by simp));have:=h2 (by simp);simp[da];omega
 ·have:=sR (h3 (by simp));have:=h2 (by simp);simp[da];omega
 ·have:=sR (h3 (by simp));simp[da];omega
 ·have:=h2 (by simp);simp[da];omega
 ·have:=nD (h4 (by simp));have:=nD (h5 rfl);have:=h2 (by simp);simp[da];omega
 ·have:=sR (h3 (by simp));have:=h2 (by simp);simp[da];omega
 ·simp[da]
 ·simp[da]
theorem V7(k:Int):(mE k).length<=5:=by unfold mE;split<;>simp
theorem Td(D:Nat)(l:List δ):∀b,δ.Rs l->b.length+2*δ.cH l<=D->(de l b).length<=δ.aU l*(3*D+1200):=by
 refine δ.lists (P:=fun l=>∀b,δ.Rs l->b.length+2*δ.cH l<=D->(de l b).length<=δ.aU l*(3*D+1200)) (fun l ih b hR hD=>?_) l;induction l with
 |nil=>simp[de]
 |cons s l wC=>
  have hs:=ih s (by simp)
  have h2:=wC (fun y hy=>ih y (by simp[hy])) hR.2 (by simp only[δ.cH]at hD;omega);obtain⟨k,g,nm,cp,pl,size,to,cb,body,ce,aA⟩:=s;obtain⟨hh,hb,he⟩:=hR.1;have hl:=Rj hh;have xO:=V7 k;simp only[δ.cH,δ.deep]at hD;simp only[δ.body,δ.aA]at hs;simp only[de,oQ,dB,δ.aU,δ.cnt,kV,Nat.one_mul];have eT:(b++kE).length=b.length+2:=by simp[kE]
  cases hk:cg k with
  |false=>
   have Ab:cB k=false:=by simp only[cg,cB,decide_eq_false_iff_not]at hk⊢;omega
   simp[hk,Ab];omega
  |true=>
   simp only[hk,if_true]at hD
   have h3:=hs.1 (b++kE) (hb hk) (by rw[eT];omega);cases Ab:cB k with
   |false=>simp[hk,Ab];omega
   |true=>
    simp only[Ab,if_true]at hD
    have h4:=hs.2 (b++kE) (he Ab) (by rw[eT];omega);simp only[hk,Ab,if_true];by_cases hx:k=7/\aA.length=0
    ·rw[if_neg (by simp),if_neg (by simp[hx])];simp;omega
    ·rw[if_neg (by simp),if_pos ⟨trivial,hx⟩];simp;omega
end Go.ab
namespace Go.ab.Tz
open Go.ab
theorem Qp{α:Type}{f:α->Int}{l:List α}(h:first f l=0):∀x∈l,f x=0:=by
 induction l with
 |nil=>intro x hx;cases hx
 |cons a l ih=>
  simp only[first]at h
  split at h
  ·contradiction
  ·rename_i h0;intro x hx;rcases dX.1 hx with rfl|hx
   ·simpa using h0
   ·exact ih h x hx
theorem Ev{L:bw}(hL:kU L){x:ζ}(h:x.err (cT L) 1=0):rk x:=by
 unfold ζ.err at h;split at h
 ·cases h
 ·rename_i h9;refine⟨ζ.aeX (no:=1) (by decide) (fun s hs=>hL s ?_) x h,by omega⟩;simp only[cT,decide_eq_true_eq]at hs;rw[hs];exact fun h=>by cases h
theorem ME{L:bw}(hL:kU L){p:φ}(h:cx L p=0):p.kW:=by
 unfold cx at h;split at h
 ·cases h
 ·rename_i h1;split at h
  ·cases h
  ·rename_i h2;refine⟨hL _ fun he=>h1 (by rw[he];rfl),by omega,fun x hx=>?_⟩;have:=Ev hL (Qp h x hx);exact this
theorem yE{L:bw}{s:List Nat}(h:ek L s=0):s.length<=8:=Ms (CZ h).1
def Du(ps:List ω)(own:Nat):Prop:=∀n q,n<own->ps[n]?=some q->q.name.length<=8/\q.ay.length<=4
theorem ae9{ps:List ω}{s:List Nat}{n:Nat}(h:ob ps s=some n):∃q,ps[n]?=some q/\q.name=s:=by rw[ob,List.findIdx?_eq_some_iff_getElem]at h;obtain⟨h1,h2,_⟩:=h;exact⟨ps[n],eo h1,by simpa using h2⟩
theorem agh{ps:List ω}{own:Nat}{L:bw}(hL:kU L)(hb:Du ps own){k g:Int}{nm:List Nat}{cp:Γ}{pl:List φ}{size to:ζ}{cb ce:Γ}{body aA:List δ}
  (h:c8 ps own L (.mk k g nm cp pl size to cb body ce aA)=0):zT k g nm pl size to:=by
 have cm:first (cx L) pl=0->pl.length<=4->yL pl:=fun h1 h2=>⟨h2,fun p hp=>ME hL (Qp h1 p hp)⟩
 simp only[c8]at h;split at h
 ·rename_i hk;subst hk;split at h
  ·cases h
  ·rename_i hg;split at h
   ·cases h
   ·rename_i ha;have:gT g<=3:=by unfold gT;split<;>(try split)<;>omega
    refine⟨by omega,fun _=>by omega,by omega,fun _=>cm h (by omega),by omega,by omega⟩
 ·rename_i je;split at h
  ·rename_i hk;split at h
   ·contradiction
   ·rename_i hn;have q_:ek L nm=0:=by simpa using hn
    have:=yE q_;exact⟨by omega,by omega,fun _=>this,by omega,fun _=>Ev hL h,by omega⟩
  ·rename_i fo;split at h
   ·rename_i hk;subst hk;split at h
    ·contradiction
    ·rename_i hn;have q_:ek L nm=0:=by simpa using hn
     have:=yE q_;split at h
     ·contradiction
     ·rename_i hs;exact⟨by omega,by omega,fun _=>this,by omega,fun _=>Ev hL (by simpa using hs),fun _=>Ev hL h⟩
   ·rename_i uN;split at h
    ·rename_i hk;subst hk;refine⟨by omega,by omega,fun _=>hL nm fun he=>?_,by omega,by omega,by omega⟩;rw[he]at h;cases h
    ·rename_i jR;split at h
     ·rename_i hk;subst hk;split at h
      ·rename_i p;split at h
       ·contradiction
       ·rename_i hp;have nx:cx L p=0:=by simpa using hp
        refine⟨by omega,by omega,fun _=>?_,fun _=>⟨by simp,fun q hq=>?_⟩,by omega,by omega⟩
        ·split at h
         ·rename_i uE;exact hL nm (by rw[uE];exact fun h=>by cases h)
         ·exact yE h
        ·simp at hq;subst hq;exact ME hL nx
      ·cases h
     ·rename_i jT;split at h
      ·rename_i hk;subst hk;split at h
       ·rename_i p;refine⟨by omega,by omega,by omega,fun _=>⟨by simp,fun q hq=>?_⟩,by omega,by omega⟩;simp at hq;subst hq;exact ME hL h
       ·cases h
      ·rename_i uL;split at h
       ·rename_i hk;subst hk;refine⟨by omega,by omega,fun _=>hL nm fun he=>?_,by omega,by omega,by omega⟩;rw[he]at h;simp at h
       ·rename_i uM;split at h
        ·rename_i hk;subst hk;split at h
         ·cases h
         ·rename_i n hn;split at h
          ·cases h
          ·rename_i ν;obtain⟨q,hq,CA⟩:=ae9 hn;rw[hq]at h;have:=hb n q (by omega) hq;dsimp only at h;split at h
           ·cases h
           ·rename_i hl;refine⟨by omega,by omega,fun _=>by rw[<-CA];exact this.1,fun _=>cm h (by omega),by omega,by omega⟩
        ·split at h
         ·rename_i uO hk;refine⟨by omega,by omega,by omega,by omega,by omega,by omega⟩
         ·cases h
theorem Nd{ps:List ω}{own:Nat}{L:bw}{x:δ}(h:c8 ps own L x=0)(hk:x.kind=2\/x.kind=4\/x.kind=8):ek L x.name=0:=by rw[qD]at h;rcases hk with hk|hk|hk<;>simp[hk]at h<;>split at h<;>first|assumption|(rename_i hn;exact absurd h hn)
theorem aaT{ps:List ω}{own:Nat}{L:bw}(hL:kU L){x:δ}(h:c8 ps own L x=0):kU (inside L x.kind x.name):=by
 by_cases h4:x.kind=4
 ·have:inside L x.kind x.name=L.inner.put x.name (.nG false):=by simp[inside,h4]
  rw[this];exact hL.inner.put (yE (Nd h (by omega))) _
 by_cases h8:x.kind=8
 ·have:inside L x.kind x.name=L.inner.put x.name .Ds:=by simp[inside,h8]
  rw[this];exact hL.inner.put (yE (Nd h (by omega))) _
 ·have:inside L x.kind x.name=L.inner:=by simp[inside,h4,h8]
  rw[this];exact hL.inner
theorem Vt{ps:List ω}{own:Nat}{L:bw}(hL:kU L){x:δ}(h:c8 ps own L x=0):kU (after L x.kind x.name):=by
 by_cases h2:x.kind=2
 ·have:after L x.kind x.name=L.put x.name (.nG true):=by simp[after,h2]
  rw[this];exact hL.put (yE (Nd h (by omega))) _
 by_cases h3:x.kind=3
 ·have:after L x.kind x.name=L.put x.name .none:=by simp[after,h3]
  rw[this];exact hL.del _
 by_cases h5:x.kind=5
 ·have:after L x.kind x.name=L.put x.name .bit:=by simp[after,h5]
  rw[this];refine hL.put ?_ _;rw[qD]at h;simp[h5]at h;split at h
  ·split at h
   ·split at h
    ·rename_i uE;exact hL _ (by rw[uE];exact fun h=>by cases h)
    ·exact yE h
   ·contradiction
  ·cases h
 ·have:after L x.kind x.name=L:=by simp[after,h2,h3,h5]
  rw[this];exact hL
theorem Wc{ps:List ω}{own:Nat}(hb:Du ps own)(l:List δ):∀L,kU L->dF ps own l L=0->δ.Rs l:=by
 refine δ.lists (P:=fun l=>∀L,kU L->dF ps own l L=0->δ.Rs l) (fun l ih L hL h=>?_) l;induction l generalizing L with
 |nil=>trivial
 |cons s l wC=>
  simp only[dF]at h
  split at h
  ·contradiction
  ·rename_i h0;have vR:c8 ps own L s=0:=by simpa using h0
   split at h
   ·contradiction
   ·rename_i h1;have fL:sN ps own s L=0:=by simpa using h1
    refine⟨?_,wC (fun y hy=>ih y (by simp[hy])) _ (Vt hL vR) h⟩;have hi:=aaT hL vR;have hs:=ih s (by simp);obtain⟨k,g,nm,cp,pl,size,to,cb,body,ce,aA⟩:=s;simp only[δ.body,δ.aA]at hs;simp only[δ.kind,δ.name]at hi;refine⟨agh hL hb vR,fun hk=>?_,fun hk=>?_⟩
    ·simp only[sN,hk,if_true]at fL;split at fL
     ·contradiction
     ·rename_i h2;exact hs.1 _ hi (by simpa using h2)
    ·have wg:cg k=true:=by simp only[cg,cB,decide_eq_true_eq]at hk⊢;omega
     simp only[sN,hk,wg,if_true]at fL;split at fL
     ·contradiction
     ·exact hs.2 _ hi fL
structure y6 (x:ω):Prop where
 name:x.name.length<=8
 ay:x.ay.length<=4
 par:∀p∈x.ay,p.name.length<=8/\1<=p.size/\p.size<=12
 body:δ.Rs x.body
 aU:δ.aU x.body<=120
 cH:δ.cH x.body<=6
theorem aeS(l:List aC):∀L,kU L->oa l L=0->(∀p∈l,p.name.length<=8/\1<=p.size/\p.size<=12)/\kU (lQ l L):=by
 induction l with
 |nil=>intro L hL _;exact⟨fun p hp=>(by cases hp),hL⟩
 |cons x l ih=>
  intro L hL h
  simp only[oa]at h;split at h
  ·cases h
  ·rename_i h1;split at h
   ·cases h
   ·rename_i h2;split at h
    ·cases h
    ·have hn:x.name.length<=8:=Ms (by simpa using h1);obtain⟨a,b⟩:=ih _ (hL.put hn _) h;refine⟨fun p hp=>?_,b⟩;rcases dX.1 hp with rfl|hp
     ·exact⟨hn,by omega⟩
     ·exact a p hp
theorem adR:kU j_:=fun _ h=>absurd rfl h
theorem ae7{ps:List ω}{own:Nat}{x:ω}(hb:Du ps own)(h:sU ps own x=0):y6 x:=by
 unfold sU at h;split at h
 ·cases h
 ·rename_i h1;split at h
  ·cases h
  ·split at h
   ·cases h
   ·rename_i h3;split at h
    ·contradiction
    ·rename_i h4;split at h
     ·cases h
     ·rename_i h5;split at h
      ·cases h
      ·rename_i h6;obtain⟨a,b⟩:=aeS x.ay j_ adR (by simpa using h4);exact⟨Ms (by simpa using h1),by omega,a,Wc hb _ _ b h,by omega,by omega⟩
theorem ae'(ps:List ω):∀k,Du ps k->pH ps k (ps.drop k)=0->∀n q,k<=n->ps[n]?=some q->y6 q:=by
 intro k;induction hd:ps.length-k generalizing k with
 |zero=>
  intro _ _ n q hn hq
  rw[List.getElem?_eq_none (by omega)]at hq;cases hq
 |succ d ih=>
  intro hb h n q hn hq
  have hk:k<ps.length:=by omega
  rw[List.drop_eq_getElem_cons hk]at h;simp only[pH]at h;split at h
  ·contradiction
  ·rename_i h0;have hr:=ae7 hb (by simpa using h0);rcases bP k n with ν|cD
   ·refine ih (k+1) (by omega) (fun m q' hm ya=>?_) h n q ν hq;rcases bP m k with h2|h2
    ·exact hb m q' h2 ya
    ·have:m=k:=by omega
     subst this;rw[eo hk]at ya;cases ya;exact⟨hr.name,hr.ay⟩
   ·have:n=k:=by omega
    subst this;rw[eo hk]at hq;cases hq;exact hr
theorem Jd{ps:List ω}(h:kG ps=0):ps.length<=12/\∀q∈ps,y6 q:=by
 unfold kG at h;split at h
 ·cases h
 ·rename_i h1;refine⟨by omega,fun q hq=>?_⟩;obtain⟨n,hn,rfl⟩:=List.getElem_of_mem hq;exact ae' ps 0 (fun n q hn=>by omega) (by simpa using h) n _ (by omega) (eo hn)
theorem ω.oU{x:ω}(h:y6 x):x.text.length<=200000:=by
 have h1:=Td 20 x.body kE h.body (by have:=h.cH;simp[kE];omega);have h2:δ.aU x.body*(3*20+1200)<=120*(3*20+1200):=rQ _ h.aU;have h3:=Jj (x.ay.map aC.text) 12 (fun t ht=>by
  obtain⟨p,hp,rfl⟩:=jv.1 ht
  have:=(h.par p hp).1;have:=Bu p.size.toNat;simp[aC.text];omega)
 rw[dq]at h3;have h4:x.ay.length*(12+2)<=4*(12+2):=rQ _ h.ay;have:=h.name;simp only[ω.text,dB,dO,fq];omega
theorem ζ.WZ(x:ζ):x.copy.kind=x.kind:=by cases x;rfl
theorem ζ.Jl(x:ζ):x.copy.text=x.text:=by
 refine ζ.iB (Q:=fun x=>x.copy.text=x.text) (fun k n s c l ih=>?_) x;have h1:ζ.texts (gU l)=ζ.texts l:=by
  clear c;induction l with
  |nil=>rfl
  |cons a l gq=>simp only[gU,ζ.texts,ih a (by simp),gq fun y hy=>ih y (by simp[hy])]
 have h2:(gU l).map ζ.kind=l.map ζ.kind:=by rw[Br,List.map_map];exact List.map_congr_left fun y _=>ζ.WZ y
 simp only[ζ.copy,ζ.text,h1,h2]
theorem φ.Jl(p:φ):p.copy.text=p.text:=by
 obtain⟨nm,c,ix⟩:=p
 match ix with
 |[]=>rfl
 |[a]=>simp[φ.copy,φ.text,gU,ζ.Jl]
 |a::b::l=>simp[φ.copy,φ.text,gU,ζ.Jl]
end Go.ab.Tz
