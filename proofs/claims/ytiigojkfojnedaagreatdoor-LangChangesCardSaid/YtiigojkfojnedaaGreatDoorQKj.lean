import Derived.Test.YtiigojkfojnedaaGreatDoorQKe
set_option linter.unusedVariables false
set_option linter.unusedSimpArgs false
set_option linter.unusedSectionVars false
set_option maxRecDepth 100000
set_option maxHeartbeats 8000000
open Nat renaming blt->qs,blt_eq->ahW
open List renaming map_nil->aA
namespace Go.ah.Tz
open Go.ah
variable{u:Nat}
attribute [local simp] exec ed dP eX aC dQ ft eL ζ gg τ fW gy gH gI lf AV.cells newVar gE rd wr fK single eV bY ek dF μ aY RV.get aV dB iE vI
def T0:List Nat:=[112,114,111,99,32,109,97,105,110,40,113,91,50,93,41,32,123,32,104,32,113,91,48,93,59,32,99,120,32,113,91,48,93,44,32,113,91,49,93,59,32,109,101,97,115,117,114,101,32,113,91,48,93,32,58,32,98,59,32,105,102,32,98,32,123,32,120,32,113,91,49,93,59,32,125,32,125]
def T3:List Nat:=[112,114,111,99,32,102,40,113,91,49,93,41,32,123,32,116,97,107,101,32,113,91,49,93,59,32,125]
def T4:List Nat:=[112,114,111,99,32,102,40,41,32,123,32,105,102,32,40]
def T5:List Nat:=[112,114,111,99,32,104,40,41,32,123,125]
def T8:List Nat:=[112,114,111,99,32,102,40,113,91,51,93,41,32,123,32,102,111,114,32,105,32,61,32,48,32,58,32,51,32,123,32,119,105,116,104,105,110,32,123,32,104,32,113,91,105,93,59,32,125,32,97,112,112,108,121,32,123,32,122,32,113,91,105,93,59,32,125,32,125,32,125]
def T9:List Nat:=[112,114,111,99,32,102,40,113,91,51,93,41,32,123,10,32,32,102,111,114,32,105,32,61,32,48,32,58,32,51,32,123,10,32,32,32,32,119,105,116,104,105,110,32,123,10,32,32,32,32,32,32,104,32,113,91,105,93,59,10,32,32,32,32,125,32,97,112,112,108,121,32,123,10,32,32,32,32,32,32,122,32,113,91,105,93,59,10,32,32,32,32,125,10,32,32,125,10,125,10]
noncomputable def yA:AV:= .list (Φ (bI T0).1.1) ((bI T0).1.1.map Ξ.av)
def xA:AV:= .agg [.int .i64 5,.int .i64 0,.str [],.list .full [.agg [.int .i64 1,.int .i64 2,.str [],.list .nil []],.agg [.int .i64 3,.int .i64 0,.str [],.list .full [.agg [.int .i64 2,.int .i64 0,.str [105],.list .nil []],.agg [.int .i64 1,.int .i64 1,.str [],.list .nil []]]]]]
def sA:List AV:=[(.int .i64 1),(.int .i64 1),(.str []),(.list .any [(.agg [(.str [113]),(.list .any [(.agg [(.int .i64 1),(.int .i64 1),(.str []),(.list .any [])])])])]),(.int .i64 0),(.int .i64 0),(.str []),(.list .any []),(.int .i64 0),(.int .i64 0),(.str []),(.list .any []),(.list .any []),(.list .any [])]
theorem Vb(u:Nat):cv (C u) 60 (.fn (.func 70) [] []) [.agg [yA]] {ε:=[],θ:=[]}=some (.aP [.int .i64 5,.int .i64 0],{ε:=[],θ:=[]}):=by kernel_rfl
theorem Vc(u:Nat):cv (C u) 60 (.fn (.func 72) [] []) [.agg [yA],.list .full [.int .i64 0,.int .i64 3,.int .i64 0,.int .i64 0]] {ε:=[],θ:=[]}=some (.aP [.agg sA,.int .i64 0],{ε:=[],θ:=[]}):=by kernel_rfl
theorem Vd(u:Nat):cv (C u) 60 (.fn (.func 26) [] []) [xA] {ε:=[],θ:=[]}=some (.aP [.str [50,32,42,32,40,105,32,43,32,49,41],.int .i64 0],{ε:=[],θ:=[]}):=by kernel_rfl
theorem Ve(u:Nat):cv (C u) 60 (.fn (.func 32) [] []) [xA,.list .full [.str [105]],.list .full [.int .i64 3]] {ε:=[],θ:=[]}=some (.aP [.int .i64 8,.int .i64 0],{ε:=[],θ:=[]}):=by kernel_rfl
theorem rd0:(bI T0).2=(0,0):=by kernel_rfl
theorem rd3:bI T3=(([],[]),27,5):=by kernel_rfl
theorem rd4:bI T4=(([],[]),14,4):=by kernel_rfl
theorem rd5:bI T5=(([],[]),5,4):=by kernel_rfl
theorem rd8:MT T8=T9:=by kernel_rfl
theorem rd9:(bI T8).2=(0,0):=by kernel_rfl
theorem okB(s:List Nat)(h:s.all (fun b=>qs b 256)=true):cX s:=fun b hb=>ahW.mp (List.all_eq_true.1 h b hb)
theorem f19:kf u 19 [] {ε:=[],θ:=[]}=some (.bool true,{ε:=[],θ:=[]}):=by
 have sL:=fun(s:List Nat) (h:s.all (fun b=>qs b 256)=true) (hl:qs s.length 1000000000=true)=>f39 (u:=u) s (okB s h) (ahW.mp hl) {ε:=[],θ:=[]};have q0:kf u 39 [.str T0] {ε:=[],θ:=[]}=some (.aP [.agg [yA],.int .i64 0,.int .i64 0],{ε:=[],θ:=[]}):=by have h:=sL T0 (by kernel_rfl) (by kernel_rfl);rw[rd0]at h;exact h
 have q3:=sL T3 (by kernel_rfl) (by kernel_rfl);have q4:=sL T4 (by kernel_rfl) (by kernel_rfl);have q5:=sL T5 (by kernel_rfl) (by kernel_rfl);have q8:=f56 (u:=u) T8 (okB T8 (by kernel_rfl)) (ahW.mp (by kernel_rfl)) {ε:=[],θ:=[]};rw[rd3]at q3;rw[rd4]at q4;rw[rd5]at q5;rw[rd8,rd9]at q8;have q1:=qD.2 ⟨60,Vb u⟩;have q2:=qD.2 ⟨60,Vc u⟩;have q6:=qD.2 ⟨60,Vd u⟩;have q7:=qD.2 ⟨60,Ve u⟩;simp only[T0,T3,T4,T5,T8,T9,xA,sA,aA]at q0 q1 q2 q3 q4 q5 q6 q7 q8;generalize yA=y at*;refine bD (g:=g19) rfl rfl rfl ?_;simp only[aA,g19,Od];let K1:St->Prop:=fun st=>st.mem= {ε:=[],θ:=[]}/\ζ st.env 1= .ae 1 0 0/\τ st.loc 1=some (0,.cells [y])/\ζ st.env 2= .int .i64 0/\ζ st.env 3= .int .i64 0;refine ω (fun st=>st.mem= {ε:=[],θ:=[]}/\st.loc=[]) (by simp) fun s1 ⟨h1,h2⟩=>?_;refine ω (fun st=>K1 st/\τ st.loc 6=none/\τ st.loc 8=none/\τ st.loc 11=none/\τ st.loc 14=none/\τ st.loc 17=none) (by simp[K1,h1,h2,q0,aR]) fun s1 ⟨⟨h1,h2,h3,h4,h5⟩,n6,n8,yp,uZ,sG⟩=>?_;let K2:St->Prop:=fun st=>K1 st/\ζ st.env 4= .int .i64 5/\ζ st.env 5= .int .i64 0;refine ω (fun st=>K2 st/\τ st.loc 6=none/\τ st.loc 8=none/\τ st.loc 11=none/\τ st.loc 14=none/\τ st.loc 17=none) (by simp[K2,K1,h1,h2,h3,h4,h5,n6,n8,yp,uZ,sG,q1]) fun s1 ⟨⟨⟨h1,h2,h3,h4,h5⟩,h6,h7⟩,n6,n8,yp,uZ,sG⟩=>?_;let K3:St->Prop:=fun st=>K2 st/\ζ st.env 6= .ae 6 0 0/\(∃l,τ st.loc 6=some (0,.cells (.int .i64 1:: .int .i64 1::l)))/\ζ st.env 7= .int .i64 0;refine ω (fun st=>K3 st/\τ st.loc 8=none/\τ st.loc 11=none/\τ st.loc 14=none/\τ st.loc 17=none) (by simp[K3,K2,K1,h1,h2,h3,h4,h5,h6,h7,n6,n8,yp,uZ,sG,q2,aR,shaped,AV.one,Mem.φ,φ,cW]) fun s1 ⟨⟨⟨⟨h1,h2,h3,h4,h5⟩,h6,h7⟩,h8,⟨l,h9⟩,aH⟩,n8,yp,uZ,sG⟩=>?_;let K4:St->Prop:=fun st=>K3 st/\ζ st.env 9= .int .i64 27/\ζ st.env 10= .int .i64 5;refine ω (fun st=>K4 st/\τ st.loc 11=none/\τ st.loc 14=none/\τ st.loc 17=none) (by simp[K4,K3,K2,K1,h1,h2,h3,h4,h5,h6,h7,h8,h9,aH,n8,yp,uZ,sG,q3,aR]) fun s1 ⟨⟨⟨⟨⟨h1,h2,h3,h4,h5⟩,h6,h7⟩,h8,⟨l,h9⟩,aH⟩,cO,mA⟩,yp,uZ,sG⟩=>?_;let K5:St->Prop:=fun st=>K4 st/\ζ st.env 12= .int .i64 14/\ζ st.env 13= .int .i64 4;refine ω (fun st=>K5 st/\τ st.loc 14=none/\τ st.loc 17=none) (by simp[K5,K4,K3,K2,K1,h1,h2,h3,h4,h5,h6,h7,h8,h9,aH,cO,mA,yp,uZ,sG,q4,aR]) fun s1 ⟨⟨⟨⟨⟨⟨h1,h2,h3,h4,h5⟩,h6,h7⟩,h8,⟨l,h9⟩,aH⟩,cO,mA⟩,pt,rV⟩,uZ,sG⟩=>?_;let K6:St->Prop:=fun st=>K5 st/\ζ st.env 15= .int .i64 5/\ζ st.env 16= .int .i64 4;refine ω (fun st=>K6 st/\τ st.loc 17=none) (by simp[K6,K5,K4,K3,K2,K1,h1,h2,h3,h4,h5,h6,h7,h8,h9,aH,cO,mA,pt,rV,uZ,sG,q5,aR]) fun s1 ⟨⟨⟨⟨⟨⟨⟨h1,h2,h3,h4,h5⟩,h6,h7⟩,h8,⟨l,h9⟩,aH⟩,cO,mA⟩,pt,rV⟩,uy,xy⟩,sG⟩=>?_;let K7:St->Prop:=fun st=>K6 st/\ζ st.env 17= .ae 17 0 0/\τ st.loc 17=some (0,.cells [.int .i64 5,.int .i64 0,.str [],.list .full [.agg [.int .i64 1,.int .i64 2,.str [],.list .nil []],.agg [.int .i64 3,.int .i64 0,.str [],.list .full [.agg [.int .i64 2,.int .i64 0,.str [105],.list .nil []],.agg [.int .i64 1,.int .i64 1,.str [],.list .nil []]]]]]);refine ω (K7) (by simp[K7,K6,K5,K4,K3,K2,K1,h1,h2,h3,h4,h5,h6,h7,h8,h9,aH,cO,mA,pt,rV,uy,xy,sG,aR,cF,shaped,Mem.φ,φ,cW]) fun s1 ⟨⟨⟨⟨⟨⟨⟨h1,h2,h3,h4,h5⟩,h6,h7⟩,h8,⟨l,h9⟩,aH⟩,cO,mA⟩,pt,rV⟩,uy,xy⟩,BL,BM⟩=>?_;let K8:St->Prop:=fun st=>K7 st/\ζ st.env 18= .str [50,32,42,32,40,105,32,43,32,49,41]/\ζ st.env 19= .int .i64 0;refine ω (K8) (by simp[K8,K7,K6,K5,K4,K3,K2,K1,h1,h2,h3,h4,h5,h6,h7,h8,h9,aH,cO,mA,pt,rV,uy,xy,BL,BM,q6]) fun s1 ⟨⟨⟨⟨⟨⟨⟨⟨h1,h2,h3,h4,h5⟩,h6,h7⟩,h8,⟨l,h9⟩,aH⟩,cO,mA⟩,pt,rV⟩,uy,xy⟩,BL,BM⟩,JM,JN⟩=>?_;let K9:St->Prop:=fun st=>K8 st/\ζ st.env 20= .int .i64 8/\ζ st.env 21= .int .i64 0;refine ω (K9) (by simp[K9,K8,K7,K6,K5,K4,K3,K2,K1,h1,h2,h3,h4,h5,h6,h7,h8,h9,aH,cO,mA,pt,rV,uy,xy,BL,BM,JM,JN,q7,shaped,AV.one,Mem.φ,φ]) fun s1 ⟨⟨⟨⟨⟨⟨⟨⟨⟨h1,h2,h3,h4,h5⟩,h6,h7⟩,h8,⟨l,h9⟩,aH⟩,cO,mA⟩,pt,rV⟩,uy,xy⟩,BL,BM⟩,JM,JN⟩,XQ,XR⟩=>?_;simp[h1,h2,h3,h4,h5,h6,h7,h8,h9,aH,cO,mA,pt,rV,uy,xy,BL,BM,JM,JN,XQ,XR,q8]
theorem f52(s:List Nat)(m:Mem):∃b,kf u 52 [.str s] m=some (.bool b,m)/\(b=false->s.length<100000000):=by
 by_cases h1:(3000:Int)<s.length
 ·by_cases h2:(s.length:Int)<=65536
  ·refine⟨true,bD (g:=tC) rfl rfl rfl ?_,by simp⟩;simp[exp,tC,Bc,h1,h2]
  ·by_cases h3:(65546:Int)<s.length
   ·refine⟨true,bD (g:=tC) rfl rfl rfl ?_,by simp⟩;simp[exp,tC,Bc,h1,h2,h3]
   ·refine⟨false,bD (g:=tC) rfl rfl rfl ?_,fun _=>by omega⟩;simp[exp,tC,Bc,h1,h2,h3]
 ·have h3:¬(65546:Int)<s.length:=by omega
  refine⟨false,bD (g:=tC) rfl rfl rfl ?_,fun _=>by omega⟩;simp[exp,tC,Bc,h1,h3]
end Go.ah.Tz
