import Derived.Test.YtiigojkfojnedaaGreatDoorQKx
import Derived.Test.YtiigojkfojnedaaGreatDoorQKj
set_option linter.unusedVariables false
set_option linter.unusedSimpArgs false
set_option linter.unusedSectionVars false
set_option maxRecDepth 100000
set_option maxHeartbeats 8000000
open List renaming getElem?_eq_some_iff->kg,take_add_one->akw,map_cons->ay,map_nil->aA,length_map->dd,getElem?_eq_getElem->dr,getElem?_map->uh,take_length->mL
open Nat renaming lt_or_ge->bP
open Option.some renaming injEq->aZ
open Go.IntKind renaming wrap->a_
namespace Go.ah.Tz
open Go.ah
variable{u:Nat}
attribute [local simp] exec ed dP eX aC dQ ft eL ζ gg τ fW gy gH gI lf AV.cells newVar gE rd wr fK single eV bY ek dF μ aY RV.get aV dB iE
theorem adE(q:List Nat):(nz q).length=q.length:=by simp[nz]
theorem agj{q:List Nat}{p:List Int}{k:Nat}{a:Nat}{b:Int}(ha:q[k]?=some a)(hb:p[k]?=some b):(nz (q.take (k+1))=p.take (k+1))↔(nz (q.take k)=p.take k/\(a:Int)=b):=by
 have hka:k<q.length:=(kg.1 ha).1;have uM:k<p.length:=(kg.1 hb).1;rw[akw,akw,ha,hb];simp only[Option.toList_some,nz,List.map_append,ay,aA];constructor
 ·intro h;obtain⟨h1,h2⟩:=List.append_inj h (by simp;omega);exact⟨h1,by simpa using h2⟩
 ·rintro⟨h1,h2⟩
  rw[h1,h2]
theorem f59(s:List Nat)(hs:cX s)(hl:s.length<1000000000)(p:List Int)(bW:p.length<1000000000)(c2:χ)(n9:aJ c2)(m:Mem):kf u 59 [.str s,dC c2 p] m=some (.aP [.int .i64 (jQ s p).1,.int .i64 (jQ s p).2.1,.int .i64 (jQ s p).2.2],m):=by
 obtain⟨sp,⟨-,c,gl,rfl,hc,di,-,oR⟩,-⟩:=f54 (u:=u) s hs hl m;have Ao:∀m,∃(c:χ) (gl:List (χ×jx)),gl.length<=2000000000/\((bI s).2.2=0->gl.map (·.2)=oy (bI s).1.2 0)/\kf u 54 [.str s] m=some (.aP [.agg [.list (Φ (bI s).1.1) ((bI s).1.1.map Ξ.av)],.list c (gl.map sQ),.int .i64 (bI s).2.1,.int .i64 (bI s).2.2],m):=fun m=>by obtain⟨sp,⟨-,c,gl,rfl,hc,di,-,oR⟩,h⟩:=f54 (u:=u) s hs hl m;exact⟨c,gl,di,oR,h⟩
 clear oR di hc gl c;obtain⟨c,gl,di,oR,Ao⟩:=Ao {ε:=m.ε,θ:=[]};have GK:=Xh (bI s).1.2 p;unfold jQ;generalize bI s=X at*;obtain⟨⟨ps,li⟩,w,e⟩:=X;dsimp only at*;refine bD (g:=Gl) rfl rfl rfl ?_;simp only[ay,aA,vF n9,exp,Gl,c59];let K:St->Prop:=fun st=>ζ st.env 1=dC c2 p/\st.mem= {ε:=m.ε,θ:=[]};refine ω (fun st=>K st/\ζ st.env 0= .str s/\τ st.loc 7=none) (by simp[K]) fun s1 ⟨⟨h1,h2⟩,h3,h4⟩=>?_;let K2:St->Prop:=fun st=>K st/\ζ st.env 8= .list c (gl.map sQ);refine ω (fun st=>K2 st/\ζ st.env 10= .int .i64 e) (by simp[K2,K,h1,h2,h3,h4,Ao,aR]) fun s1 ⟨⟨⟨h1,h2⟩,h3⟩,h4⟩=>?_;by_cases he:e=0
 ·subst he;have oR:=oR rfl;refine ω (K2) (by simp[K2,K,h1,h2,h3,h4]) fun s1 ⟨⟨h1,h2⟩,h3⟩=>?_;rw[<-oR]at GK;let Out:List (χ×jx)->Prop:=fun r=>((r.map (·.2)).find? fun y=>nz y.path==p)=((gl.map (·.2)).find? fun y=>nz y.path==p);let I:Nat->St->Prop:=fun i st=>K2 st/\ζ st.env 11= .int .i64 i/\i<=gl.length/\Out (gl.drop i);refine bc (fun st=>K2 st/\fq p li=none) ?_ fun s2 ⟨⟨⟨h1,h2⟩,h3⟩,hz⟩=>?_
  ·refine ω (I 0) (by simp[I,Out,K2,K,h1,h2,h3]) fun s1 hI=>?_;refine μ.block (μ.jt (I:=I) gl.length hI fun i st hi ψ=>?_);obtain⟨⟨⟨h1,h2⟩,h3⟩,h4,-,wi⟩:=ψ;unfold Sk;have gll:(gl.map sQ).length=gl.length:=dd _;rcases bP i gl.length with ρ|cG
   ·have GS:(i:Int)<gl.length:=by omega
    obtain⟨⟨cp,⟨fr,to,q⟩⟩,hg⟩:∃g,gl[i]?=some g:=⟨_,dr ρ⟩;have vY:(gl.map sQ)[i]?=some (.agg [.int .i64 fr,.int .i64 to,.list cp (cB q)]):=by rw[uh,hg];rfl
    have QJ:gl.drop i=(cp,⟨fr,to,q⟩)::gl.drop (i+1):=by have h:=List.drop_eq_getElem_cons ρ;rw[dr ρ,aZ]at hg;rw[hg]at h;exact h
    have ql:(cB q).length=q.length:=by simp[cB]
    have pl:(p.map (AV.int .i64)).length=p.length:=dd _;simp only[dC]at h1;have hqp:((q.length:Int)==(p.length:Int))=decide (q.length=p.length):=by by_cases h:q.length=p.length<;>simp[h];omega
    let K3:St->Prop:=fun st=>(ζ st.env 1= .list c2 (p.map (AV.int .i64))/\st.mem= {ε:=m.ε,θ:=[]})/\ζ st.env 8= .list c (gl.map sQ)/\ζ st.env 11= .int .i64 i;refine ω (K3) (by simp[K3,h1,h2,h3,h4,GS]) fun s1 ⟨⟨h1,h2⟩,h3,h4⟩=>?_;refine bc (fun st=>K3 st/\nz q≠p) (μ.block ?_) fun s2 ⟨⟨⟨h1,h2⟩,h3,h4⟩,ak⟩=>?_
    ·refine ω (fun st=>K3 st/\ζ st.env 12= .bool (decide (q.length=p.length))) (by simp[K3,h1,h2,h3,h4,GS,vY,ql,hqp]) fun s1 ⟨⟨⟨h1,h2⟩,h3,h4⟩,h5⟩=>?_;let J:Nat->St->Prop:=fun k st=>K3 st/\ζ st.env 13= .int .i64 k/\k<=q.length/\∃b,ζ st.env 12= .bool b/\b=(decide (q.length=p.length)&&decide (nz (q.take k)=p.take k));refine bc (fun st=>K3 st/\ζ st.env 12= .bool (decide (nz q=p))) ?_ fun s1 ⟨⟨⟨h1,h2⟩,h3,h4⟩,h5⟩=>?_
     ·refine ω (J 0) (by simp[J,K3,h1,h2,h3,h4,h5,nz]) fun s1 hJ=>?_;refine μ.block (μ.jt (I:=J) q.length hJ fun k st hk ψ=>?_);obtain⟨⟨⟨h1,h2⟩,h3,h4⟩,h5,-,b,h6,hb⟩:=ψ;unfold Sj;cases b with
      |false=>
       have hq:nz q≠p:=fun h=>by subst h;rw[adE]at hb;simp[nz,List.map_take]at hb
       refine μ.done (.exit 2) (fun st=>K3 st/\ζ st.env 12= .bool false) (by simp[K3,h1,h2,h3,h4,h5,h6]) fun s' hh=> .inr ⟨by simp,.inl ⟨rfl,.inl ⟨rfl,by simpa[hq]using hh⟩⟩⟩
      |true=>
       have hb:=hb.symm
       simp only[Bool.and_eq_true,decide_eq_true_eq]at hb;obtain⟨hlen,iX⟩:=hb;rcases bP k q.length with uN|hkg
       ·obtain⟨a,ha⟩:∃a,q[k]?=some a:=⟨_,dr uN⟩;obtain⟨b,hb⟩:∃b,p[k]?=some b:=⟨_,dr (by omega)⟩;have ga:(cB q)[k]?=some (.int .i64 a):=by rw[cB,uh,ha];rfl
        have gb:(p.map (AV.int .i64))[k]?=some (.int .i64 b):=by rw[uh,hb];rfl
        have h_:(k:Int)<q.length:=by omega
        have eF:(k:Int)<p.length:=by omega
        have Gz:((a:Int)==b)=decide ((a:Int)=b):=rfl;have JY:a_ .i64 ((k:Int)+1)=(k:Int)+1:=wrap_i64 (by omega) (by omega);refine μ.done .normal (fun st=>K3 st/\ζ st.env 13= .int .i64 ((k+1:Nat):Int)/\ζ st.env 12= .bool (decide ((a:Int)=b))) (by simp[K3,h1,h2,h3,h4,h5,h6,h_,eF,ga,gb,vY,GS,ql,JY,Gz]) fun s' ⟨m1,m2,m3⟩=> .inl ⟨rfl,uN,m1,m2,by omega,_,m3,?_⟩;have:=agj ha hb;simp[hlen,this,iX]
       ·have v_:k=q.length:=by omega
        subst v_;have eF:¬(q.length:Int)<p.length:=by omega
        have hq:nz q=p:=by rw[mL,hlen,mL]at iX;exact iX
        refine μ.done (.exit 2) (fun st=>K3 st/\ζ st.env 12= .bool true) (by simp[K3,h1,h2,h3,h4,h5,h6,eF]) fun s' hh=> .inr ⟨by simp,.inl ⟨rfl,.inl ⟨rfl,by simpa[hq]using hh⟩⟩⟩
     ·by_cases hq:nz q=p
      ·have hz:some ((fr:Int),(to:Int))=(fq p li).map fun z=>((z.f:Int),(z.t:Int)):=by rw[<-GK,<-wi,QJ];simp[hq]
       cases sy:fq p li with
       |none=>rw[sy]at hz;simp at hz
       |some z=>
        rw[sy]at hz
        simp only[Option.map_some,aZ,Prod.mk.injEq]at hz;obtain⟨rfl,rfl⟩:=hz;refine μ.done .ret (fun st=>ζ st.env 4= .int .i64 z.f/\ζ st.env 5= .int .i64 z.t/\ζ st.env 6= .int .i64 0/\st.mem= {ε:=m.ε,θ:=[]}) (by simp[h1,h2,h3,h4,h5,hq,vY,GS]) fun s' ⟨m1,m2,m3,m4⟩=> .inr ⟨by simp,.inr ⟨by simp,.inr ⟨by simp,.inr ⟨by simp,.inr ⟨by simp,by simp,⟨[],by rw[m4];simp⟩,[.int .i64 z.f,.int .i64 z.t,.int .i64 0],by simp[m1,m2,m3],by simp[ai,bK,hU]⟩⟩⟩⟩⟩
      ·refine μ.done .normal K3 (by simp[K3,h1,h2,h3,h4,h5,hq]) fun s' hh=> .inr ⟨by simp,.inl ⟨rfl,hh,hq⟩⟩
    ·have JY:a_ .i64 ((i:Int)+1)=(i:Int)+1:=wrap_i64 (by omega) (by omega);refine μ.done .normal (I (i+1)) (by
      simp[I,K2,K,h1,h2,h3,h4,JY,dC,Out]
      refine⟨by omega,?_⟩;rw[QJ]at wi;simpa[Out,ak]using wi) fun s' hh=> .inl ⟨rfl,ρ,hh⟩
   ·have:i=gl.length:=by omega
    subst this;have hz:fq p li=none:=by
     have:((gl.map (·.2)).find? fun y=>nz y.path==p)=none:=by rw[<-wi];simp
     rw[this]at GK;simpa using GK.symm
    refine μ.done (.exit 0) K2 (by simp[K2,K,h1,h2,h3,h4]) fun s' hh=> .inr ⟨by simp,.inl ⟨rfl,.inl ⟨rfl,hh,hz⟩⟩⟩
  ·rw[hz];simp[h1,h2,h3,ai,bK,hU]
 ·have fT:(e==0)=false:=beq_eq_false_iff_ne.2 he;refine bc (fun _=>False) ?_ fun _ h=>h.elim;simp[h1,h2,h3,h4,he,fT,ai,bK,hU]
theorem f60(s v:List Nat)(hs:cX s)(hv:cX v)(hl:s.length<100000000)(uQ:v.length<100000000)(p:List Int)(bW:p.length<1000000000)(c2:χ)(n9:aJ c2)(m:Mem):kf u 60 [.str s,dC c2 p,.str v] m=some (.aP [.str (yz s p v).1,.int .i64 (yz s p v).2],m):=by
 have MB:=fun m=>f59 (u:=u) s hs (by omega) p bW c2 n9 m;have hb:=Uq hs (by omega) p;obtain⟨sp,-,Ao⟩:=f54 (u:=u) (rk s p v) (To hs hv) (by have:=Tn s v p;omega) {ε:=m.ε,θ:=[]};unfold yz;have hT:rk s p v=s.take (jQ s p).1.toNat++v++s.drop (jQ s p).2.1.toNat:=rfl;generalize rk s p v=T at*;generalize jQ s p=X at*;obtain⟨a,b,e⟩:=X;generalize bI T=Y at*;obtain⟨⟨ps,li⟩,w,e2⟩:=Y;dsimp only at*;obtain⟨a,rfl⟩:∃n:Nat,a=n:=⟨a.toNat,by omega⟩;obtain⟨b,rfl⟩:∃n:Nat,b=n:=⟨b.toNat,by omega⟩;simp only[Int.toNat_natCast]at hT;have ha:a<=s.length:=by omega
 have bf:b<=s.length:=by omega
 have n1:¬(9223372036854775807:Int)<(a:Int)+v.length:=by omega
 have n2:¬(9223372036854775807:Int)<(a:Int)+v.length+((s.length-b:Nat):Int):=by omega
 refine bD (g:=Gm) rfl rfl rfl ?_;simp only[ay,aA,vF n9,exp,Gm,O9];let K:St->Prop:=fun st=>ζ st.env 0= .str s/\ζ st.env 2= .str v/\st.mem= {ε:=m.ε,θ:=[]}/\τ st.loc 12=none;refine ω (fun st=>K st/\ζ st.env 1=dC c2 p) (by simp[K]) fun s1 ⟨⟨h0,h1,h2,h3⟩,h4⟩=>?_;let K2:St->Prop:=fun st=>K st/\ζ st.env 8= .int .i64 a/\ζ st.env 9= .int .i64 b/\ζ st.env 10= .int .i64 e;refine ω (K2) (by simp[K2,K,h0,h1,h2,h3,h4,MB]) fun s1 ⟨⟨h0,h1,h2,h3⟩,h4,h5,h6⟩=>?_;by_cases he:e=0
 ·subst he;refine ω (K2) (by simp[K2,K,h0,h1,h2,h3,h4,h5,h6]) fun s1 ⟨⟨h0,h1,h2,h3⟩,h4,h5,h6⟩=>?_;refine ω (fun st=>ζ st.env 11= .str T/\st.mem= {ε:=m.ε,θ:=[]}/\τ st.loc 12=none) (by simp[h0,h1,h2,h3,h4,h5,h6,bound,ha,bf,hT,n1,n2]) fun s1 ⟨h1,h2,h3⟩=>?_;by_cases gM:e2=0
  ·subst gM;refine ω (fun st=>ζ st.env 11= .str T/\st.mem= {ε:=m.ε,θ:=[]}) (by simp[h1,h2,h3,Ao,aR]) fun s1 ⟨h1,h2⟩=>?_;simp[h1,h2,ai,bK,hU]
  ·have fT:(e2==0)=false:=beq_eq_false_iff_ne.2 gM;refine bc (fun _=>False) ?_ fun _ h=>h.elim;simp[h1,h2,h3,Ao,aR,gM,fT,ai,bK,hU]
 ·have fT:(e==0)=false:=beq_eq_false_iff_ne.2 he;refine bc (fun _=>False) ?_ fun _ h=>h.elim;simp[h0,h1,h2,h3,h4,h5,h6,he,fT,ai,bK,hU]
attribute [local simp] vI
theorem f8(s v:List Nat)(hs:cX s)(hv:cX v)(p:List Int)(c:χ)(hc:(c= .nil/\p=[])\/c= .any):kf u 8 [.str s,.str v,dC c p] {ε:=[],θ:=[]}=some (.bool true,{ε:=[],θ:=[]}):=by
 have gj:aJ c:=hc.imp And.left id;obtain⟨b,hb,eQ⟩:=f52 (u:=u) s {ε:=[],θ:=[]};obtain⟨b',bf,Yn⟩:=f52 (u:=u) v {ε:=[],θ:=[]};have Ea:=f19 (u:=u);refine bD (g:=g8) rfl rfl rfl ?_;simp only[ay,aA,vF gj,exp,g8,c8];let K:St->Prop:=fun st=>ζ st.env 0= .str s/\ζ st.env 1= .str v/\ζ st.env 2=dC c p/\st.mem= {ε:=[],θ:=[]};refine ω (K) (by simp[K]) fun s1 ⟨h1,h2,h3,h4⟩=>?_;have fe:=h3;simp only[dC]at fe;by_cases J7:b=true\/b'=true\/20<p.length
 ·refine bc (fun _=>False) ?_ fun _ h=>h.elim;rcases J7 with rfl|rfl|h
  ·simp[h1,h2,fe,h4,hb,Ea]
  ·cases b<;>simp[h1,h2,fe,h4,hb,bf,Ea]
  ·have h':(20:Int)<p.length:=by omega
   cases b<;>cases b'<;>simp[h1,h2,fe,h4,hb,bf,Ea,h']
 have ef:b=false:=by cases b<;>simp_all
 have bN:b'=false:=by cases b'<;>simp_all
 have bW:p.length<=20:=by
  rcases bP 20 p.length with h|h
  ·exact absurd (.inr (.inr h)) J7
  ·exact h
 subst ef bN;have hl:=eQ rfl;have uQ:=Yn rfl;have Z':¬(20:Int)<p.length:=by omega
 have q30:=fun m=>f30 (u:=u) c p hc (by omega) m;have q34:=fun m=>f34 (u:=u) c c gj gj p (by omega) m;have MB:=fun m=>f59 (u:=u) s hs (by omega) p (by omega) c gj m;have q60:=fun m=>f60 (u:=u) s v hs hv hl uQ p (by omega) c gj m;have MC:=fun m=>f61 (u:=u) s hs (by omega) p c gj m;have q62:=fun m=>f62 (u:=u) s v hs hv hl uQ p c gj m;generalize jQ s p=X at*;generalize yz s p v=Y at*;obtain⟨x1,x2,x3⟩:=X;obtain⟨y1,y2⟩:=Y;dsimp only at*;refine ω (K) (by simp[K,h1,h2,fe,h4,hb,bf,Z',dC]) fun s1 ⟨h1,h2,h3,h4⟩=>?_;let K1:St->Prop:=fun st=>K st/\ζ st.env 7=dC c p;refine ω (K1) (by simp[K1,K,h1,h2,h3,h4,q30]) fun s1 ⟨⟨h1,h2,h3,h4⟩,h5⟩=>?_;let K2:St->Prop:=fun st=>K1 st/\ζ st.env 8= .int .i64 x1/\ζ st.env 9= .int .i64 x2/\ζ st.env 10= .int .i64 x3;refine ω (K2) (by simp[K2,K1,K,h1,h2,h3,h4,h5,MB]) fun s1 ⟨⟨⟨h1,h2,h3,h4⟩,h5⟩,h6,h7,h8⟩=>?_;let K3:St->Prop:=fun st=>K2 st/\ζ st.env 11= .str y1/\ζ st.env 12= .int .i64 y2;refine ω (K3) (by simp[K3,K2,K1,K,h1,h2,h3,h4,h5,h6,h7,h8,q60]) fun s1 ⟨⟨⟨⟨h1,h2,h3,h4⟩,h5⟩,h6,h7,h8⟩,h9,aH⟩=>?_;let K4:St->Prop:=fun st=>K3 st/\ζ st.env 13= .int .i64 x1/\ζ st.env 14= .int .i64 x2/\ζ st.env 15= .int .i64 x3;refine ω (K4) (by simp[K4,K3,K2,K1,K,h1,h2,h3,h4,h5,h6,h7,h8,h9,aH,MC]) fun s1 ⟨⟨⟨⟨⟨h1,h2,h3,h4⟩,h5⟩,h6,h7,h8⟩,h9,aH⟩,cO,mA,pt⟩=>?_;let K5:St->Prop:=fun st=>K4 st/\ζ st.env 16= .str y1/\ζ st.env 17= .int .i64 y2;refine ω (K5) (by simp[K5,K4,K3,K2,K1,K,h1,h2,h3,h4,h5,h6,h7,h8,h9,aH,cO,mA,pt,q62]) fun s1 ⟨⟨⟨⟨⟨⟨h1,h2,h3,h4⟩,h5⟩,h6,h7,h8⟩,h9,aH⟩,cO,mA,pt⟩,rV,uy⟩=>?_;simp[h1,h2,h3,h4,h5,h6,h7,h8,h9,aH,cO,mA,pt,rV,uy,q34,Ea]
end Go.ah.Tz
