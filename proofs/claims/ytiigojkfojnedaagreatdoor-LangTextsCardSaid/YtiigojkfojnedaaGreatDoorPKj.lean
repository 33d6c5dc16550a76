import Derived.Test.YtiigojkfojnedaaGreatDoorPKe
set_option linter.unusedVariables false
set_option linter.unusedSimpArgs false
set_option linter.unusedSectionVars false
set_option maxRecDepth 100000
set_option maxHeartbeats 8000000
open Nat renaming blt->qI,blt_eq->ahZ
open List renaming map_nil->aw
namespace Go.ab.Tz
open Go.ab
variable{u:Nat}
attribute [local simp] exec eG eu fz aF d_ fQ fe bq gN bT gF gS hU hZ mD AV.cells newVar hH rd wr gg single fy bF er dL κ bf RV.get ba dU jy xB
def T0:List Nat:=[112,114,111,99,32,109,97,105,110,40,113,91,50,93,41,32,123,32,104,32,113,91,48,93,59,32,99,120,32,113,91,48,93,44,32,113,91,49,93,59,32,109,101,97,115,117,114,101,32,113,91,48,93,32,58,32,98,59,32,105,102,32,98,32,123,32,120,32,113,91,49,93,59,32,125,32,125]
def T3:List Nat:=[112,114,111,99,32,102,40,113,91,49,93,41,32,123,32,116,97,107,101,32,113,91,49,93,59,32,125]
def T4:List Nat:=[112,114,111,99,32,102,40,41,32,123,32,105,102,32,40]
def T5:List Nat:=[112,114,111,99,32,104,40,41,32,123,125]
def T8:List Nat:=[112,114,111,99,32,102,40,113,91,51,93,41,32,123,32,102,111,114,32,105,32,61,32,48,32,58,32,51,32,123,32,119,105,116,104,105,110,32,123,32,104,32,113,91,105,93,59,32,125,32,97,112,112,108,121,32,123,32,122,32,113,91,105,93,59,32,125,32,125,32,125]
def T9:List Nat:=[112,114,111,99,32,102,40,113,91,51,93,41,32,123,10,32,32,102,111,114,32,105,32,61,32,48,32,58,32,51,32,123,10,32,32,32,32,119,105,116,104,105,110,32,123,10,32,32,32,32,32,32,104,32,113,91,105,93,59,10,32,32,32,32,125,32,97,112,112,108,121,32,123,10,32,32,32,32,32,32,122,32,113,91,105,93,59,10,32,32,32,32,125,10,32,32,125,10,125,10]
noncomputable def yA:AV:= .list (Ξ (cN T0).1.1) ((cN T0).1.1.map ω.av)
def xA:AV:= .agg [.int .i64 5,.int .i64 0,.str [],.list .full [.agg [.int .i64 1,.int .i64 2,.str [],.list .nil []],.agg [.int .i64 3,.int .i64 0,.str [],.list .full [.agg [.int .i64 2,.int .i64 0,.str [105],.list .nil []],.agg [.int .i64 1,.int .i64 1,.str [],.list .nil []]]]]]
def sA:List AV:=[(.int .i64 1),(.int .i64 1),(.str []),(.list .any [(.agg [(.str [113]),(.list .any [(.agg [(.int .i64 1),(.int .i64 1),(.str []),(.list .any [])])])])]),(.int .i64 0),(.int .i64 0),(.str []),(.list .any []),(.int .i64 0),(.int .i64 0),(.str []),(.list .any []),(.list .any []),(.list .any [])]
theorem VO(u:Nat):cv (C u) 60 (.fn (.func 70) [] []) [.agg [yA]] {ε:=[],η:=[]}=some (.aO [.int .i64 5,.int .i64 0],{ε:=[],η:=[]}):=by kernel_rfl
theorem VP(u:Nat):cv (C u) 60 (.fn (.func 72) [] []) [.agg [yA],.list .full [.int .i64 0,.int .i64 3,.int .i64 0,.int .i64 0]] {ε:=[],η:=[]}=some (.aO [.agg sA,.int .i64 0],{ε:=[],η:=[]}):=by kernel_rfl
theorem VQ(u:Nat):cv (C u) 60 (.fn (.func 26) [] []) [xA] {ε:=[],η:=[]}=some (.aO [.str [50,32,42,32,40,105,32,43,32,49,41],.int .i64 0],{ε:=[],η:=[]}):=by kernel_rfl
theorem VS(u:Nat):cv (C u) 60 (.fn (.func 32) [] []) [xA,.list .full [.str [105]],.list .full [.int .i64 3]] {ε:=[],η:=[]}=some (.aO [.int .i64 8,.int .i64 0],{ε:=[],η:=[]}):=by kernel_rfl
theorem rd0:(cN T0).2=(0,0):=by kernel_rfl
theorem rd3:cN T3=(([],[]),27,5):=by kernel_rfl
theorem rd4:cN T4=(([],[]),14,4):=by kernel_rfl
theorem rd5:cN T5=(([],[]),5,4):=by kernel_rfl
theorem rd8:Ik T8=T9:=by kernel_rfl
theorem rd9:(cN T8).2=(0,0):=by kernel_rfl
theorem okB(s:List Nat)(h:s.all (fun b=>qI b 256)=true):dJ s:=fun b hb=>ahZ.mp (List.all_eq_true.1 h b hb)
theorem f19:kf u 19 [] {ε:=[],η:=[]}=some (.bool true,{ε:=[],η:=[]}):=by
 have tZ:=fun(s:List Nat) (h:s.all (fun b=>qI b 256)=true) (hl:qI s.length 1000000000=true)=>f39 (u:=u) s (okB s h) (ahZ.mp hl) {ε:=[],η:=[]};have q0:kf u 39 [.str T0] {ε:=[],η:=[]}=some (.aO [.agg [yA],.int .i64 0,.int .i64 0],{ε:=[],η:=[]}):=by have h:=tZ T0 (by kernel_rfl) (by kernel_rfl);rw[rd0]at h;exact h
 have q3:=tZ T3 (by kernel_rfl) (by kernel_rfl);have q4:=tZ T4 (by kernel_rfl) (by kernel_rfl);have q5:=tZ T5 (by kernel_rfl) (by kernel_rfl);have q8:=f56 (u:=u) T8 (okB T8 (by kernel_rfl)) (ahZ.mp (by kernel_rfl)) {ε:=[],η:=[]};rw[rd3]at q3;rw[rd4]at q4;rw[rd5]at q5;rw[rd8,rd9]at q8;have q1:=qO.2 ⟨60,VO u⟩;have q2:=qO.2 ⟨60,VP u⟩;have q6:=qO.2 ⟨60,VQ u⟩;have q7:=qO.2 ⟨60,VS u⟩;simp only[T0,T3,T4,T5,T8,T9,xA,sA,aw]at q0 q1 q2 q3 q4 q5 q6 q7 q8;generalize yA=y at*;refine bz (g:=g19) rfl rfl rfl ?_;simp only[aw,g19,OE];let K1:St->Prop:=fun st=>st.mem= {ε:=[],η:=[]}/\bq st.env 1= .Ω 1 0 0/\bT st.loc 1=some (0,.cells [y])/\bq st.env 2= .int .i64 0/\bq st.env 3= .int .i64 0;refine χ (fun st=>st.mem= {ε:=[],η:=[]}/\st.loc=[]) (by simp) fun s1 ⟨h1,h2⟩=>?_;refine χ (fun st=>K1 st/\bT st.loc 6=none/\bT st.loc 8=none/\bT st.loc 11=none/\bT st.loc 14=none/\bT st.loc 17=none) (by simp[K1,h1,h2,q0,aQ]) fun s1 ⟨⟨h1,h2,h3,h4,h5⟩,n6,n8,yC,u5,sP⟩=>?_;let K2:St->Prop:=fun st=>K1 st/\bq st.env 4= .int .i64 5/\bq st.env 5= .int .i64 0;refine χ (fun st=>K2 st/\bT st.loc 6=none/\bT st.loc 8=none/\bT st.loc 11=none/\bT st.loc 14=none/\bT st.loc 17=none) (by simp[K2,K1,h1,h2,h3,h4,h5,n6,n8,yC,u5,sP,q1]) fun s1 ⟨⟨⟨h1,h2,h3,h4,h5⟩,h6,h7⟩,n6,n8,yC,u5,sP⟩=>?_;let K3:St->Prop:=fun st=>K2 st/\bq st.env 6= .Ω 6 0 0/\(∃l,bT st.loc 6=some (0,.cells (.int .i64 1:: .int .i64 1::l)))/\bq st.env 7= .int .i64 0;refine χ (fun st=>K3 st/\bT st.loc 8=none/\bT st.loc 11=none/\bT st.loc 14=none/\bT st.loc 17=none) (by simp[K3,K2,K1,h1,h2,h3,h4,h5,h6,h7,n6,n8,yC,u5,sP,q2,aQ,shaped,AV.one,Mem.ρ,ρ,cL]) fun s1 ⟨⟨⟨⟨h1,h2,h3,h4,h5⟩,h6,h7⟩,h8,⟨l,h9⟩,aG⟩,n8,yC,u5,sP⟩=>?_;let K4:St->Prop:=fun st=>K3 st/\bq st.env 9= .int .i64 27/\bq st.env 10= .int .i64 5;refine χ (fun st=>K4 st/\bT st.loc 11=none/\bT st.loc 14=none/\bT st.loc 17=none) (by simp[K4,K3,K2,K1,h1,h2,h3,h4,h5,h6,h7,h8,h9,aG,n8,yC,u5,sP,q3,aQ]) fun s1 ⟨⟨⟨⟨⟨h1,h2,h3,h4,h5⟩,h6,h7⟩,h8,⟨l,h9⟩,aG⟩,c6,lG⟩,yC,u5,sP⟩=>?_;let K5:St->Prop:=fun st=>K4 st/\bq st.env 12= .int .i64 14/\bq st.env 13= .int .i64 4;refine χ (fun st=>K5 st/\bT st.loc 14=none/\bT st.loc 17=none) (by simp[K5,K4,K3,K2,K1,h1,h2,h3,h4,h5,h6,h7,h8,h9,aG,c6,lG,yC,u5,sP,q4,aQ]) fun s1 ⟨⟨⟨⟨⟨⟨h1,h2,h3,h4,h5⟩,h6,h7⟩,h8,⟨l,h9⟩,aG⟩,c6,lG⟩,oC,pV⟩,u5,sP⟩=>?_;let K6:St->Prop:=fun st=>K5 st/\bq st.env 15= .int .i64 5/\bq st.env 16= .int .i64 4;refine χ (fun st=>K6 st/\bT st.loc 17=none) (by simp[K6,K5,K4,K3,K2,K1,h1,h2,h3,h4,h5,h6,h7,h8,h9,aG,c6,lG,oC,pV,u5,sP,q5,aQ]) fun s1 ⟨⟨⟨⟨⟨⟨⟨h1,h2,h3,h4,h5⟩,h6,h7⟩,h8,⟨l,h9⟩,aG⟩,c6,lG⟩,oC,pV⟩,sn,so⟩,sP⟩=>?_;let K7:St->Prop:=fun st=>K6 st/\bq st.env 17= .Ω 17 0 0/\bT st.loc 17=some (0,.cells [.int .i64 5,.int .i64 0,.str [],.list .full [.agg [.int .i64 1,.int .i64 2,.str [],.list .nil []],.agg [.int .i64 3,.int .i64 0,.str [],.list .full [.agg [.int .i64 2,.int .i64 0,.str [105],.list .nil []],.agg [.int .i64 1,.int .i64 1,.str [],.list .nil []]]]]]);refine χ (K7) (by simp[K7,K6,K5,K4,K3,K2,K1,h1,h2,h3,h4,h5,h6,h7,h8,h9,aG,c6,lG,oC,pV,sn,so,sP,aQ,cX,shaped,Mem.ρ,ρ,cL]) fun s1 ⟨⟨⟨⟨⟨⟨⟨h1,h2,h3,h4,h5⟩,h6,h7⟩,h8,⟨l,h9⟩,aG⟩,c6,lG⟩,oC,pV⟩,sn,so⟩,xF,xG⟩=>?_;let K8:St->Prop:=fun st=>K7 st/\bq st.env 18= .str [50,32,42,32,40,105,32,43,32,49,41]/\bq st.env 19= .int .i64 0;refine χ (K8) (by simp[K8,K7,K6,K5,K4,K3,K2,K1,h1,h2,h3,h4,h5,h6,h7,h8,h9,aG,c6,lG,oC,pV,sn,so,xF,xG,q6]) fun s1 ⟨⟨⟨⟨⟨⟨⟨⟨h1,h2,h3,h4,h5⟩,h6,h7⟩,h8,⟨l,h9⟩,aG⟩,c6,lG⟩,oC,pV⟩,sn,so⟩,xF,xG⟩,BX,J7⟩=>?_;let K9:St->Prop:=fun st=>K8 st/\bq st.env 20= .int .i64 8/\bq st.env 21= .int .i64 0;refine χ (K9) (by simp[K9,K8,K7,K6,K5,K4,K3,K2,K1,h1,h2,h3,h4,h5,h6,h7,h8,h9,aG,c6,lG,oC,pV,sn,so,xF,xG,BX,J7,q7,shaped,AV.one,Mem.ρ,ρ]) fun s1 ⟨⟨⟨⟨⟨⟨⟨⟨⟨h1,h2,h3,h4,h5⟩,h6,h7⟩,h8,⟨l,h9⟩,aG⟩,c6,lG⟩,oC,pV⟩,sn,so⟩,xF,xG⟩,BX,J7⟩,Ym,Yn⟩=>?_;simp[h1,h2,h3,h4,h5,h6,h7,h8,h9,aG,c6,lG,oC,pV,sn,so,xF,xG,BX,J7,Ym,Yn,q8]
theorem f52(s:List Nat)(m:Mem):∃b,kf u 52 [.str s] m=some (.bool b,m)/\(b=false->s.length<1000000000):=by
 by_cases h1:(3000:Int)<s.length
 ·by_cases h2:(s.length:Int)<=65536
  ·refine⟨true,bz (g:=tE) rfl rfl rfl ?_,by simp⟩;simp[exp,tE,Bn,h1,h2]
  ·by_cases h3:(65546:Int)<s.length
   ·refine⟨true,bz (g:=tE) rfl rfl rfl ?_,by simp⟩;simp[exp,tE,Bn,h1,h2,h3]
   ·refine⟨false,bz (g:=tE) rfl rfl rfl ?_,fun _=>by omega⟩;simp[exp,tE,Bn,h1,h2,h3]
 ·have h3:¬(65546:Int)<s.length:=by omega
  refine⟨false,bz (g:=tE) rfl rfl rfl ?_,fun _=>by omega⟩;simp[exp,tE,Bn,h1,h3]
theorem f7(s:List Nat)(hs:dJ s):kf u 7 [.str s] {ε:=[],η:=[]}=some (.bool true,{ε:=[],η:=[]}):=by
 obtain⟨b,hb,eT⟩:=f52 (u:=u) s {ε:=[],η:=[]};have Qc:=f19 (u:=u);refine bz (g:=g7) rfl rfl rfl ?_;simp only[List.map_cons,aw,exp,g7,c7];let K:St->Prop:=fun st=>bq st.env 0= .str s/\st.mem= {ε:=[],η:=[]};refine χ (fun st=>K st/\bT st.loc 6=none/\bT st.loc 14=none) (by simp[K]) fun s1 ⟨⟨h1,h2⟩,p1,p2⟩=>?_;cases b with
 |true=>
  refine aZ (fun _=>False) ?_ fun _ h=>h.elim
  simp[h1,h2,hb,Qc]
 |false=>
 have hl:=eT rfl
 refine χ (fun st=>K st/\bT st.loc 6=none/\bT st.loc 14=none) (by simp[K,h1,h2,p1,p2,hb]) fun s1 ⟨⟨h1,h2⟩,p1,p2⟩=>?_;have Un:=f53 (u:=u) s hl {ε:=[],η:=[]};have Uo:=f55 (u:=u) s hs hl {ε:=[],η:=[]};obtain⟨c,l,w,e,hr,hc,gO⟩:∃(c:Γ) (l:List Tok) (w e:Int),uc s Tok.cC= .aO [.list c (l.map Tok.cC),.int .i64 w,.int .i64 e]/\aJ c/\l.length<1000000000:=by
  unfold uc;split
  ·exact⟨.nil,[],_,_,rfl,.inl rfl,by simp⟩
  ·split
   ·exact⟨.nil,[],_,_,rfl,.inl rfl,by simp⟩
   ·have:=Im s;refine⟨_,bG s,_,_,rfl,?_,by omega⟩;split<;>simp[aJ]
 rw[hr]at Un Uo;have q57:=f57 (u:=u) c hc l gO {ε:=[],η:=[]};obtain⟨sp,Θ,q54⟩:=f54 (u:=u) s hs hl {ε:=[],η:=[]};have tZ:=f39 (u:=u) s hs hl {ε:=[],η:=[]};have Up:=f56 (u:=u) s hs hl {ε:=[],η:=[]};have lj:=afq s;have hf:=Us s;unfold Ik at Up;generalize cN s=X at*;obtain⟨⟨ps,li⟩,w2,e2⟩:=X;dsimp only at*;have q27:kf u 27 [.agg [.list (Ξ ps) (ps.map ω.av)],.agg [.list (Ξ ps) (ps.map ω.av)]] {ε:=[],η:=[]}=some (.bool true,{ε:=[],η:=[]}):=by
  by_cases he:e2=0
  ·obtain⟨hc,vX,hw,h0⟩:=hf he;have q:=f27 (u:=u) (Ξ ps) (Ξ ps) (ib _) (ib _) ps Θ hw {ε:=[],η:=[]};rw[vX]at q;exact q
  ·cases lj he;exact f27 (u:=u) .nil .nil (.inl rfl) (.inl rfl) [] (by simp) (by decide) {ε:=[],η:=[]}
 let K1:St->Prop:=fun st=>K st/\bq st.env 3= .list c (l.map Tok.cC)/\bq st.env 4= .int .i64 w/\bq st.env 5= .int .i64 e;refine χ (fun st=>K1 st/\bT st.loc 6=none/\bT st.loc 14=none) (by simp[K1,K,h1,h2,p1,p2,Un]) fun s1 ⟨⟨⟨h1,h2⟩,h3,h4,h5⟩,p1,p2⟩=>?_;let K2:St->Prop:=fun st=>K1 st/\bq st.env 6= .Ω 6 0 0/\bT st.loc 6=some (0,.cells [.list (Ξ ps) (ps.map ω.av)])/\bq st.env 8= .int .i64 w2/\bq st.env 9= .int .i64 e2;refine χ (fun st=>K2 st/\bT st.loc 14=none) (by simp[K2,K1,K,h1,h2,h3,h4,h5,p1,p2,q54,aQ]) fun s1 ⟨⟨⟨⟨h1,h2⟩,h3,h4,h5⟩,h6,h7,h8,h9⟩,p2⟩=>?_;refine χ (fun st=>(K2 st/\bT st.loc 14=none)/\bq st.env 10= .str []) (by simp[K2,K1,K,h1,h2,h3,h4,h5,h6,h7,h8,h9,p2]) fun s1 ⟨⟨⟨⟨⟨h1,h2⟩,h3,h4,h5⟩,h6,h7,h8,h9⟩,p2⟩,aG⟩=>?_;refine χ (fun st=>(K2 st/\bT st.loc 14=none)/\bq st.env 10= .str (if e2=0 then gu ps else[])) (by
  by_cases he:e2=0
  ·obtain⟨hc,-,hw,h0⟩:=hf he;have Uj:=f23 (u:=u) (Ξ ps) (ib _) ps Θ hw (Jd hc).1 (Jd hc).2 {ε:=[],η:=[]};simp only[dA]at Uj;subst he;simp[K2,K1,K,h1,h2,h3,h4,h5,h6,h7,h8,h9,p2,aG,Uj]
  ·have gW:(e2==0)=false:=beq_eq_false_iff_ne.2 he;simp[K2,K1,K,h1,h2,h3,h4,h5,h6,h7,h8,h9,p2,aG,he,gW]) fun s1 ⟨⟨⟨⟨⟨h1,h2⟩,h3,h4,h5⟩,h6,h7,h8,h9⟩,p2⟩,aG⟩=>?_
 generalize(if e2=0 then gu ps else[])=tx at*;let K3:St->Prop:=fun st=>K2 st/\bq st.env 10= .str tx/\bq st.env 11= .list c (l.map Tok.cC)/\bq st.env 12= .int .i64 w/\bq st.env 13= .int .i64 e;refine χ (fun st=>K3 st/\bT st.loc 14=none) (by simp[K3,K2,K1,K,h1,h2,h3,h4,h5,h6,h7,h8,h9,p2,aG,Uo]) fun s1 ⟨⟨⟨⟨⟨h1,h2⟩,h3,h4,h5⟩,h6,h7,h8,h9⟩,aG,c6,lG,oC⟩,p2⟩=>?_;let K4:St->Prop:=fun st=>K3 st/\bq st.env 14= .Ω 14 0 0/\bT st.loc 14=some (0,.cells [.list (Ξ ps) (ps.map ω.av)])/\bq st.env 15= .int .i64 w2/\bq st.env 16= .int .i64 e2;refine χ (K4) (by simp[K4,K3,K2,K1,K,h1,h2,h3,h4,h5,h6,h7,h8,h9,p2,aG,c6,lG,oC,tZ,aQ]) fun s1 ⟨⟨⟨⟨⟨h1,h2⟩,h3,h4,h5⟩,h6,h7,h8,h9⟩,aG,c6,lG,oC⟩,pV,J6,sn,so⟩=>?_;refine χ (fun st=>K4 st/\bq st.env 17= .str tx/\bq st.env 18= .int .i64 w2/\bq st.env 19= .int .i64 e2) (by simp[K4,K3,K2,K1,K,h1,h2,h3,h4,h5,h6,h7,h8,h9,aG,c6,lG,oC,pV,J6,sn,so,Up]) fun s1 ⟨⟨⟨⟨⟨⟨h1,h2⟩,h3,h4,h5⟩,h6,h7,h8,h9⟩,aG,c6,lG,oC⟩,pV,J6,sn,so⟩,xF,xG,BX⟩=>?_;simp[h1,h2,h3,h4,h5,h6,h7,h8,h9,aG,c6,lG,oC,pV,J6,sn,so,xF,xG,BX,q27,q57,Qc]
end Go.ab.Tz
