import Derived.Test.YtiigojkfojnedaaGreatDoorSLa
import Derived.Test.YtiigojkfojnedaaGreatDoorProg
import Derived.Shelf.SlMaps.Clone
import Derived.Shelf.Strings.OnBuilder
import Derived.Shelf.Small.Strs
import Derived.Shelf.Strconv.Atoi
import Derived.Shelf.Strconv.Itoa3
import Derived.Shelf.Strconv.AtoiErr
set_option linter.all false
set_option maxRecDepth 100000
set_option maxHeartbeats 8000000
open Go.World renaming setCell->amC,shape?->amH
open Array renaming getElem?_modify->J1
open Go.Proofs.Tryz renaming prog->Ψ,func170->amD,ntmps170->amE,underlying148->Kj,underlying290->amF,func221->amG,func106->amy,underlying51->yt,underlying9->AB,underlying241->Kl,func111->amA,ntmps111->amI,underlying261->amJ,underlying0->amK,isAgg0->amL,sizeOf0->amM,zeroValue0->amN,underlying3->Fs,isAgg3->amO,sizeOf3->amP,zeroValue3->Fu,underlying4->Ft,isAgg4->amQ,sizeOf4->amR,zeroValue4->amS,isAgg9->amT,sizeOf9->amU,zeroValue9->Fw,underlying20->amV,isAgg20->amW,sizeOf20->amX,zeroValue20->amY,isAgg51->amZ,sizeOf51->am0,zeroValue51->am1,underlying153->Kk,isAgg153->am2,sizeOf153->am3,zeroValue153->am4,underlying154->am5,isAgg154->am6,sizeOf154->am7,zeroValue154->am8,isAgg241->am9,sizeOf241->am_,zeroValue241->am',underlying5->Cy,isAgg5->ana,sizeOf5->anb,zeroValue5->Fv,func287->anc,func109->amu,func269->amB,func314->ane,func173->anf,func292->ang,func293->anh,func222->ani,func303->anj,func304->ank,func305->anl,func306->anm,func307->ann,func261->ano,func262->anp,func263->anq,func264->anr,func312->ans,func313->ant,func286->anu,func288->anv,func289->anw,func290->anx,func316->anz,func317->anA,func301->anB,func302->anC,underlying2->anD,isAgg2->anE,sizeOf2->anF,zeroValue2->anG,underlying21->anH,isAgg21->anI,sizeOf21->anJ,zeroValue21->anK,underlying226->anL,isAgg226->anM,sizeOf226->anN,zeroValue226->anO,underlying171->anP,isAgg171->anQ,sizeOf171->anR,zeroValue171->anS,underlying284->anT,isAgg284->anU,sizeOf284->anV,zeroValue284->anW,underlying348->anX,isAgg348->anY,sizeOf348->anZ,zeroValue348->an0,underlying361->an1,isAgg361->an2,sizeOf361->an3,zeroValue361->an4,underlying363->an5,isAgg363->an6,sizeOf363->an7,zeroValue363->an8,underlying347->an9,isAgg347->an_,sizeOf347->an',zeroValue347->aoa,underlying350->aob,isAgg350->aoc,sizeOf350->aod,zeroValue350->aoe,underlying314->aof,isAgg314->aog,sizeOf314->aoh,zeroValue314->aoi,underlying317->aoj,isAgg317->aok,sizeOf317->aol,zeroValue317->aom,underlying355->aon,isAgg355->aoo,sizeOf355->aoq,zeroValue355->aor,underlying358->aos,isAgg358->aot,sizeOf358->aou,zeroValue358->aov,underlying338->aow,isAgg338->aox,sizeOf338->aoy,zeroValue338->aoz,underlying339->aoA,isAgg339->aoB,sizeOf339->aoC,underlying353->aoD,isAgg353->aoE,sizeOf353->aoF,zeroValue353->aoG,underlying354->aoH,isAgg354->aoI,sizeOf354->aoJ,zeroValue354->aoK
open Option renaming map_eq_some_iff->bD
namespace Go.Θ.Tz
open Go.Θ Go.Proofs Go.RowKit
theorem PI(w:World)(b i k:Nat)(v:Value)(h:k≠b):(w.setCell ⟨b,i,none⟩ v).heap[k]?=w.heap[k]?:=by simp only[amC,J1];rw[if_neg (fun e=>h e.symm)]
theorem XL{w w':World}{e:TypeId}{s:List Nat}{v:Value}{r:Option Nat}(h:pL w e s v r)(hk:∀k,r=some k->w'.heap[k]?=w.heap[k]?):pL w' e s v r:=by
 rcases h with h|⟨g,cap,cur,rfl,h2,h3,h4,h5⟩
 ·exact .inl h
 ·exact .inr ⟨g,cap,cur,rfl,h2,h3,(hk g rfl).trans h4,h5⟩
theorem akA{P:Program}{w:World}{ops:Array Oper}{rest:List Oper}{o:Oper}{a:Act}{Q:Exit->Act->World->Prop}(o6:o.guard=none)(sl x:Operand)(t u:TypeId)
  (ho:o.op= .call {callee:= .builtin .append,args:= #[sl,x],argTypes:= #[t,u]}) {e:TypeId} {i:TypeInfo} (ht:P.underlying t=some (.slice e)) (hu:P.underlying u=some .string) (hi:P.info? e=some i)
  (hz:i.zero=some (.int .u8 0)) (D6:i.size=1) (HX:i.bytes=1) {v:Value} {r:Option Nat} {q:List Nat} (hs:a.eval sl=v) (hv:pL w e q v r) (s:ByteArray) (hx:a.eval x= .string s)
  (hlen:q.length+s.size<=140737488355328)
  (h:∀(v':Value) (w':World) (r':Option Nat),pL w' e (q++s.data.toList.map UInt8.toNat) v' r'->(r'=r\/r'=some w.heap.size)->w.heap.size<=w'.heap.size->w'.os=w.os->w'.tape=w.tape->w'.output=w.output→
   (∀k,k<w.heap.size->r≠some k->w'.heap[k]?=w.heap[k]?)->wpList P ops Q rest (a.put o.dst v') w'):wpList P ops Q (o::rest) a w:=by
 refine wpList_plain o6 fun K hK=>?_;obtain⟨v',w',r',hr,h1,h2,h3,h4,h5,h6,h7⟩:=Zx (P:=P) (ty:=o.type) ht hu hi hz D6 HX hv s hlen;unfold Oper.wp execOp;simp only[ho,resolve,invoke,builtin,Sem.run_bind,Sem.run_pure,Result.andThen_ok,List.map_toArray,List.map_cons,List.map_nil,hs,hx,hr];exact hK _ _ (h v' w' r' h1 h2 h3 h4 h5 h6 h7)
def Checked(w w':World)(b:Nat)(v:Value):Prop:=
 w'.heap[b]?=some (.cells #[.pointer (some ⟨b,0,none⟩),v] 150 (0,0))/\w'.heap.size=w.heap.size/\w'.os=w.os/\w'.tape=w.tape/\w'.output=w.output/\∀k,k≠b->w'.heap[k]?=w.heap[k]?
theorem aaD(b:Nat)(w:World)(h0:w.cell? ⟨b,0,none⟩=some (.pointer (some ⟨b,0,none⟩))):
  Calls Ψ 170 #[.pointer (some ⟨b,0,none⟩)] w fun e w'=>e= .returned (.tuple #[])/\w'=w:=by
 obtain⟨j,hj,_⟩:=bD.1 (show(Ψ.info? 150).map (·.size)=some 2 by kernel_rfl)
 go_enter amD,amE
 go_wp2
 rw[Lib.run_neq_ptr_same w _ Kj hj]
 go_wp2
 go_end0
 exact⟨rfl,rfl⟩
theorem aaC(b:Nat)(w:World)(h0:w.cell? ⟨b,0,none⟩=some (.pointer none))(dX:w.shape? b=some (150,2))(hfz:w.frozen? ⟨b,0,none⟩=false):
  Calls Ψ 170 #[.pointer (some ⟨b,0,none⟩)] w fun e w'=>e= .returned (.tuple #[])/\w'=w.setCell ⟨b,0,none⟩ (.pointer (some ⟨b,0,none⟩)):=by
 obtain⟨j,hj,vE⟩:=bD.1 (show(Ψ.info? 150).map (·.size)=some 2 by kernel_rfl)
 go_enter amD,amE
 go_wp2
 rw[Lib.run_to_unsafe w ⟨b,0,none⟩ Kj amF hj (by rw[vE];decide) dX (Nat.zero_lt_succ 1)];simp only[Result.andThen];rw[Oper.upon_value]
 go_wp2
 rw[run_callFunc_extern amG (by kernel_rfl) (by kernel_rfl) (by kernel_rfl) (e:=Extern.AbiNoEscape.same) (by kernel_rfl)];rw[Lib.run_noEscape];simp only[Result.andThen];rw[Oper.upon_value]
 go_wp2
 rw[Lib.run_from_unsafe w ⟨b,0,none⟩ amF Kj hj dX (by kernel_rfl)];simp only[Result.andThen];rw[Oper.upon_value]
 go_wp2
 go_end0
 exact⟨rfl,rfl⟩
theorem aaB(b:Nat)(p v:Value)(w:World)(hb:w.heap[b]?=some (.cells #[p,v] 150 (0,0)))(hp:p= .pointer none\/p= .pointer (some ⟨b,0,none⟩)):
  Calls Ψ 170 #[.pointer (some ⟨b,0,none⟩)] w fun e w'=>e= .returned (.tuple #[])/\Checked w w' b v:=by
 have c0:w.cell? ⟨b,0,none⟩=some p:=by rw[Lib.cell_of_heap hb];rfl
 rcases hp with rfl|rfl
 ·refine(aaC b w c0 (by simp[amH,hb]) (by simp[World.frozen?,hb])).mono fun e w' ⟨he,hw⟩=>?_;subst hw;refine⟨he,?_,by simp[amC],rfl,rfl,rfl,fun k hk=>PI w b 0 k _ hk⟩;simp[amC,J1,hb]
 ·refine(aaD b w c0).mono fun e w' ⟨he,hw⟩=>?_;subst hw;exact⟨he,hb,rfl,rfl,rfl,rfl,fun k hk=>rfl⟩
theorem writeString(b:Nat)(s:ByteArray)(p v:Value)(r:Option Nat)(q:List Nat)(w:World)(hb:w.heap[b]?=some (.cells #[p,v] 150 (0,0)))(hp:p= .pointer none\/p= .pointer (some ⟨b,0,none⟩))
  (gH:pL w 5 q v r) (xB:r≠some b) (hlen:q.length+s.size<=140737488355328):
  Calls Ψ 106 #[.pointer (some ⟨b,0,none⟩),.string s] w fun en w'=>en= .returned (.tuple #[.int .i64 s.size,.nilIface])/\Qa w w' b r/\∃p' v' r',w'.heap[b]?=some (.cells #[p',v'] 150 (0,0))∧
   (p'= .pointer none\/p'= .pointer (some ⟨b,0,none⟩))/\pL w' 5 (q++s.data.toList.map UInt8.toNat) v' r'/\(r'=r\/∃k,r'=some k/\w.heap.size<=k):=by
 obtain⟨i0,hi,hz0,gu,iI⟩:=info_parts (show(Ψ.info? 5).map (fun i=>(i.zero,i.size,i.bytes))=some (some (.int .u8 0),1,1) by kernel_rfl)
 go_enter amy,Tryz.ntmps106
 go_wp2_with (go_at_call 170;refine(aaB b p v _ hb hp).mono ?_)
 rintro e w1 ⟨rfl,hc⟩
 have dy:=hc.1;have c0:w1.cell? ⟨b,0,none⟩=some (.pointer (some ⟨b,0,none⟩)):=by rw[Lib.cell_of_heap dy];rfl
 have c1:w1.cell? ⟨b,1,none⟩=some v:=by rw[Lib.cell_of_heap dy];rfl
 have qT:pL w1 5 q v r:=XL gH fun k hk=>hc.2.2.2.2.2 k fun e=>xB (by rw[hk,e])
 go_wp2_with (at_builtin;refine akA rfl _ _ 51 9 rfl yt AB hi hz0 gu iI rfl qT s rfl hlen ?_)
 intro v' w2 r' tq iT alm acX adg acZ gE;have ψ:b<w1.heap.size:=(Array.getElem?_eq_some_iff.1 dy).1;have dz:w2.heap[b]?=some (.cells #[.pointer (some ⟨b,0,none⟩),v] 150 (0,0)):=(gE b ψ xB).trans dy;have d0:w2.cell? ⟨b,0,none⟩=some (.pointer (some ⟨b,0,none⟩)):=by rw[Lib.cell_of_heap dz];rfl
 have d1:w2.cell? ⟨b,1,none⟩=some v:=by rw[Lib.cell_of_heap dz];rfl
 have f1:w2.frozen? ⟨b,1,none⟩=false:=Lib.frozen_of_heap dz 1;have jZ:∃ao n' cap,v'= .slice ao n' cap:=by
  rcases tq with⟨hv,_⟩|⟨g,cap,cur,_,hv,_⟩
  ·exact⟨_,_,_,hv⟩
  ·exact⟨_,_,_,hv⟩
 obtain⟨ao,n',cap,rfl⟩:=jZ;have ac3:r'≠some b:=by
  rcases iT with h|h
  ·rw[h];exact xB
  ·rw[h];intro e;cases e;omega
 go_wp2
 go_ret2
 obtain⟨-,Vp,acW,adf,acY,pZ⟩:=hc;refine⟨rfl,⟨by simp[amC];omega,acX.trans acW,adg.trans adf,acZ.trans acY,fun k hk xp DN=>?_⟩,.pointer (some ⟨b,0,none⟩),.slice ao n' cap,r',?_,.inr rfl,?_,?_⟩
 ·rw[PI _ _ _ _ _ xp,gE k (by omega) DN,pZ k xp]
 ·simp[amC,J1,dz]
 ·exact XL tq fun k hk=>PI _ _ _ _ _ fun e=>ac3 (by rw[hk,e])
 ·rcases iT with h|h
  ·exact .inl h
  ·exact .inr ⟨_,h,by omega⟩
theorem Zo(b g cap:Nat)(p:Value)(cur:Array Value)(l:List UInt8)(w:World)(h0:l≠[])(hb:w.heap[b]?=some (.cells #[p,.slice (some ⟨g,0,none⟩) l.length cap] 150 (0,0)))
  (hg:w.heap[g]?=some (.cells cur 5 (0,0))) (jm:cur.size=cap) (lu:l.length<=cap) (DA:cap<=maxLen) (jz:∀(j:Nat) (x:UInt8),l[j]?=some x->cur[j]?=some (Value.int .u8 x.toNat)):
  Calls Ψ 111 #[.pointer (some ⟨b,0,none⟩)] w fun e w'=>e= .returned (.string ⟨l.toArray⟩)/\w'=w.drew.freeze ⟨g,0,none⟩ l.length:=by
 have xt:l.length≠0:=by simpa using h0
 have jO:maxLen=9223372036854775807:=rfl;have o6:w.drew.heap[g]?=some (.cells cur 5 (0,0)):=hg;have c1:w.drew.cell? ⟨b,1,none⟩=some (.slice (some ⟨g,0,none⟩) l.length cap):=by have:w.drew.heap[b]?=some (.cells #[p,.slice (some ⟨g,0,none⟩) l.length cap] 150 (0,0)):=hb;rw[Lib.cell_of_heap this];rfl
 have hSD:(Builtin.unsafeSliceData_ #[51] 241 #[.slice (some ⟨g,0,none⟩) l.length cap]).run Ψ w.drew= .ok (.pointer (some ⟨g,0,none⟩)) w.drew:=
  Lib.run_unsafeSliceData_row _ _ _ _ _ _ (by omega)
 have hUS:(Builtin.unsafeString_ #[241,3] 9 #[.pointer (some ⟨g,0,none⟩),.int .i64 l.length]).run Ψ w.drew= .ok (.string ⟨l.toArray⟩) (w.drew.freeze ⟨g,0,none⟩ l.length):=by
  refine Lib.run_unsafeString_row w.drew 241 3 9 5 Kl (by kernel_rfl) g cur.size (by simp[amH,o6]) l h0 (by omega) (by omega) ?_;intro j x hx;have hz:((⟨g,0,none⟩:Addr).add j)=⟨g,j,none⟩:=by rw[Addr.add_mid];simp
  rw[hz,Lib.cell_of_heap o6];exact jz j x hx
 clear hb hg o6 jz
 go_enter amA,amI
 go_wp2
 go_region
 all_goals(go_wp2;go_ret;exact⟨rfl,rfl⟩)
theorem Zn(b:Nat)(p:Value)(w:World)(hb:w.heap[b]?=some (.cells #[p,.slice none 0 0] 150 (0,0))):
  Calls Ψ 111 #[.pointer (some ⟨b,0,none⟩)] w fun e w'=>e= .returned (.string ⟨#[]⟩)/\w'=w.drew:=by
 have hSD:(Builtin.unsafeSliceData_ #[51] 241 #[.slice none 0 0]).run Ψ w.drew= .ok (.pointer none) w.drew:=Lib.run_unsafeSliceData_nil w.drew _ _ _ _;have hUS:(Builtin.unsafeString_ #[241,3] 9 #[.pointer none,.int .i64 0]).run Ψ w.drew= .ok (.string .empty) w.drew:=Lib.run_unsafeString_none w.drew _ _ _ none;have c1:w.drew.cell? ⟨b,1,none⟩=some (.slice none 0 0):=by have:w.drew.heap[b]?=some (.cells #[p,.slice none 0 0] 150 (0,0)):=hb;rw[Lib.cell_of_heap this];rfl
 clear hb
 go_enter amA,amI
 go_wp2
 go_region
 all_goals(go_wp2;go_ret;exact⟨rfl,rfl⟩)
theorem agi(b:Nat)(es:Array MapEntry)(clock:Nat)(w:World)(hb:w.heap[b]?=some (.map es clock)):
  Calls Ψ 277 #[.map (some b)] w fun e w'=>e= .returned (.map (some w.heap.size))/\w'=w.alloc (.map es clock):=by
 have hq:=fun w=>run_eql_map_nil_sl (P:=Ψ) w 261 _ _ (some b) amJ
 go_enter Tryz.func277,Tryz.ntmps277
 go_wp2
 rw[run_callFunc_extern Tryz.func299 (by kernel_rfl) (by kernel_rfl) (by kernel_rfl) (e:=Extern.MapsClone.clone) (by kernel_rfl),run_maps_clone_sl w 261 hb];simp only[Result.andThen];rw[Oper.upon_value]
 go_wp2
 rw[run_typeAssert_map_sl _ 261 20 _ _ _ amJ];simp only[Result.andThen];rw[Oper.upon_value]
 go_wp2
 go_ret
 exact⟨rfl,rfl⟩
end Go.Θ.Tz
namespace Go.Proofs
open Go.Shelf
theorem b_{A:Type}{a b:A}{o:Option A}(h:o=some a)(e:a=b):o=some b:=h.trans (congrArg some e)
def Tryz.Wk:Go.Shelf.Ren:=⟨fun|156=>174|165=>161|166=>106|169=>111|240=>170|241=>216|276=>221|277=>256|n=>n,fun|31=>42|9=>9|3=>3|4=>4|0=>0|20=>20|72=>150|76=>154|70=>148|37=>51|75=>153|127=>241|164=>290|5=>5|80=>161|n=>n,fun|n=>n⟩
theorem Tryz.Wj:Go.Proofs.Lays.n156 Tryz.prog Tryz.Wk:= {
 mixed:=by kernel_rfl
 f156:=b_ Tryz.func174 (by kernel_rfl)
 f165:=b_ Tryz.func161 (by kernel_rfl)
 f166:=b_ amy (by kernel_rfl)
 f169:=b_ amA (by kernel_rfl)
 f240:=b_ amD (by kernel_rfl)
 f241:=b_ Tryz.func216 (by kernel_rfl)
 f276:=b_ amG (by kernel_rfl)
 f277:=b_ Tryz.func256 (by kernel_rfl)
 t0:=amK
 a0:=amL
 z0:=amM
 v0:=amN
 t3:=Fs
 a3:=amO
 z3:=amP
 v3:=Fu
 t4:=Ft
 a4:=amQ
 z4:=amR
 v4:=amS
 t9:=AB
 a9:=amT
 z9:=amU
 v9:=Fw
 t20:=amV
 a20:=amW
 z20:=amX
 v20:=amY
 t31:=Tryz.underlying42
 a31:=Tryz.isAgg42
 z31:=Tryz.sizeOf42
 v31:=Tryz.zeroValue42
 t37:=yt
 a37:=amZ
 z37:=am0
 v37:=am1
 t70:=Kj
 a70:=Tryz.isAgg148
 z70:=Tryz.sizeOf148
 v70:=Tryz.zeroValue148
 t72:=Tryz.underlying150
 a72:=Tryz.isAgg150
 z72:=Tryz.sizeOf150
 v72:=Tryz.zeroValue150
 t75:=Kk
 a75:=am2
 z75:=am3
 v75:=am4
 t76:=am5
 a76:=am6
 z76:=am7
 v76:=am8
 t127:=Kl
 a127:=am9
 z127:=am_
 v127:=am'
 t164:=amF
 a164:=Tryz.isAgg290
 z164:=Tryz.sizeOf290
 v164:=Tryz.zeroValue290}
theorem Tryz.P9:Builder.Extra Tryz.prog Tryz.Wk:= {
 sizeBuilder:=by kernel_rfl
 liesBuilder:=by kernel_rfl
 t5:=Cy
 a5:=ana
 z5:=anb
 v5:=Fv
 infoByte:=by kernel_rfl
 cellsByte:=by kernel_rfl
 sizeByte:=by kernel_rfl
 neB5:=by decide}
open Go.RowKit in
theorem Tryz.strings_Join_none(a:Option Addr)(c:Nat)(sep:ByteArray)(w:World):
  Calls Ψ 174 #[.slice a 0 c,.string sep] w fun e w'=>e= .returned (.string ⟨#[]⟩)/\w'=w:=Any.strings_Join_none Tryz.Wj Tryz.P9 a c sep w
open Go.RowKit in
theorem Tryz.strings_Join(bk o c:Nat)(xs:List ByteArray)(sep:ByteArray)(w:World)(Dz:∀(j:Nat) x,xs[j]?=some x->w.cell? ⟨bk,o+j,none⟩=some (.string x))(MO:bk<w.heap.size)(hN:xs.length<=140737488355328)(dQ:xs.length<=c)(hlen:(Lib.join (xs.map (·.data.toList)) sep.data.toList).length<=140737488355328):
  Calls Ψ 174 #[.slice (some ⟨bk,o,none⟩) xs.length c,.string sep] w fun e w'=>e= .returned (.string ⟨(Lib.join (xs.map (·.data.toList)) sep.data.toList).toArray⟩)/\Below w.heap.size w w':=Any.strings_Join Tryz.Wj Tryz.P9 bk o c xs sep w Dz MO hN dQ hlen
def Tryz.afO:Go.Shelf.Ren:=⟨fun|137=>238|217=>251|266=>284|n=>n,fun|9=>9|5=>5|3=>3|n=>n,fun|n=>n⟩
theorem Tryz.afN:Go.Proofs.Lays.n137 Tryz.prog Tryz.afO:= {
 mixed:=by kernel_rfl
 f137:=b_ Tryz.func238 (by kernel_rfl)
 f217:=b_ Tryz.func251 (by kernel_rfl)
 f266:=b_ Tryz.func284 (by kernel_rfl)
 t3:=Fs
 a3:=amO
 z3:=amP
 v3:=Fu
 t5:=Cy
 a5:=ana
 z5:=anb
 v5:=Fv
 t9:=AB
 a9:=amT
 z9:=amU
 v9:=Fw}
open Go.RowKit in
theorem Tryz.strings_IndexByte(s:ByteArray)(c:Int)(w:World):
  Calls Ψ 238 #[.string s,.int .u8 c] w fun e w'=>e= .returned (.int .i64 (Lib.indexByte s.data.toList c.toNat.toUInt8))/\w'=w:=Any.strings_IndexByte Tryz.afN s c w
def Tryz.afS:Go.Shelf.Ren:=⟨fun|172=>269|244=>292|245=>293|247=>303|279=>304|280=>305|281=>306|282=>307|287=>312|316=>313|171=>109|205=>314|321=>316|322=>317|243=>173|246=>222|283=>261|284=>262|285=>263|286=>264|129=>287|317=>286|318=>288|319=>289|320=>290|337=>301|338=>302|n=>n,fun|9=>9|3=>3|75=>153|76=>154|4=>4|5=>5|167=>347|37=>51|0=>0|85=>348|2=>2|168=>350|53=>284|175=>355|46=>226|210=>358|127=>241|145=>363|143=>361|21=>21|171=>314|173=>317|212=>338|51=>171|20=>20|213=>339|232=>353|233=>354|80=>161|n=>n,fun|15=>8|16=>9|17=>5|18=>6|19=>7|n=>n⟩
theorem Tryz.afR:Go.Proofs.Lays.n172 Tryz.prog Tryz.afS:= {
 mixed:=by kernel_rfl
 f129:=b_ anc (by kernel_rfl)
 f171:=b_ amu (by kernel_rfl)
 f172:=b_ amB (by kernel_rfl)
 f205:=b_ ane (by kernel_rfl)
 f243:=b_ anf (by kernel_rfl)
 f244:=b_ ang (by kernel_rfl)
 f245:=b_ anh (by kernel_rfl)
 f246:=b_ ani (by kernel_rfl)
 f247:=b_ anj (by kernel_rfl)
 f279:=b_ ank (by kernel_rfl)
 f280:=b_ anl (by kernel_rfl)
 f281:=b_ anm (by kernel_rfl)
 f282:=b_ ann (by kernel_rfl)
 f283:=b_ ano (by kernel_rfl)
 f284:=b_ anp (by kernel_rfl)
 f285:=b_ anq (by kernel_rfl)
 f286:=b_ anr (by kernel_rfl)
 f287:=b_ ans (by kernel_rfl)
 f316:=b_ ant (by kernel_rfl)
 f317:=b_ anu (by kernel_rfl)
 f318:=b_ anv (by kernel_rfl)
 f319:=b_ anw (by kernel_rfl)
 f320:=b_ anx (by kernel_rfl)
 f321:=b_ anz (by kernel_rfl)
 f322:=b_ anA (by kernel_rfl)
 f337:=b_ anB (by kernel_rfl)
 f338:=b_ anC (by kernel_rfl)
 t0:=amK
 a0:=amL
 z0:=amM
 v0:=amN
 t2:=anD
 a2:=anE
 z2:=anF
 v2:=anG
 t3:=Fs
 a3:=amO
 z3:=amP
 v3:=Fu
 t4:=Ft
 a4:=amQ
 z4:=amR
 v4:=amS
 t5:=Cy
 a5:=ana
 z5:=anb
 v5:=Fv
 t9:=AB
 a9:=amT
 z9:=amU
 v9:=Fw
 t20:=amV
 a20:=amW
 z20:=amX
 v20:=amY
 t21:=anH
 a21:=anI
 z21:=anJ
 v21:=anK
 t37:=yt
 a37:=amZ
 z37:=am0
 v37:=am1
 t46:=anL
 a46:=anM
 z46:=anN
 v46:=anO
 t51:=anP
 a51:=anQ
 z51:=anR
 v51:=anS
 t53:=anT
 a53:=anU
 z53:=anV
 v53:=anW
 t75:=Kk
 a75:=am2
 z75:=am3
 v75:=am4
 t76:=am5
 a76:=am6
 z76:=am7
 v76:=am8
 t85:=anX
 a85:=anY
 z85:=anZ
 v85:=an0
 t127:=Kl
 a127:=am9
 z127:=am_
 v127:=am'
 t143:=an1
 a143:=an2
 z143:=an3
 v143:=an4
 t145:=an5
 a145:=an6
 z145:=an7
 v145:=an8
 t167:=an9
 a167:=an_
 z167:=an'
 v167:=aoa
 t168:=aob
 a168:=aoc
 z168:=aod
 v168:=aoe
 t171:=aof
 a171:=aog
 z171:=aoh
 v171:=aoi
 t173:=aoj
 a173:=aok
 z173:=aol
 v173:=aom
 t175:=aon
 a175:=aoo
 z175:=aoq
 v175:=aor
 t210:=aos
 a210:=aot
 z210:=aou
 v210:=aov
 t212:=aow
 a212:=aox
 z212:=aoy
 v212:=aoz
 t213:=aoA
 a213:=aoB
 z213:=aoC
 t232:=aoD
 a232:=aoE
 z232:=aoF
 v232:=aoG
 t233:=aoH
 a233:=aoI
 z233:=aoJ
 v233:=aoK
 g15:=by kernel_rfl
 g16:=by kernel_rfl
 g17:=by kernel_rfl
 g18:=by kernel_rfl
 g19:=by kernel_rfl}
open Go.RowKit in
theorem Tryz.strconv_Atoi(s:ByteArray)(n:Int)(hl:s.size<=18)(h:Lib.atoi s.data.toList=some n)(w:World):
  Calls Ψ 269 #[.string s] w fun e w'=>e= .returned (.tuple #[.int .i64 n,.nilIface])/\∃t,w'=Lib.bytesWorld w 5 t:=Any.strconv_Atoi Tryz.afR s n hl h w
def Tryz.afQ:Go.Shelf.Ren:=⟨fun|171=>109|243=>173|246=>222|283=>261|284=>262|285=>263|286=>264|129=>287|317=>286|318=>288|319=>289|320=>290|337=>301|338=>302|n=>n,fun|3=>3|9=>9|2=>2|4=>4|171=>314|0=>0|53=>284|37=>51|5=>5|173=>317|212=>338|51=>171|20=>20|213=>339|46=>226|232=>353|233=>354|n=>n,fun|17=>5|18=>6|19=>7|n=>n⟩
theorem Tryz.afP:Go.Proofs.Lays.n171 Tryz.prog Tryz.afQ:= {
 mixed:=by kernel_rfl
 f129:=b_ anc (by kernel_rfl)
 f171:=b_ amu (by kernel_rfl)
 f243:=b_ anf (by kernel_rfl)
 f246:=b_ ani (by kernel_rfl)
 f283:=b_ ano (by kernel_rfl)
 f284:=b_ anp (by kernel_rfl)
 f285:=b_ anq (by kernel_rfl)
 f286:=b_ anr (by kernel_rfl)
 f317:=b_ anu (by kernel_rfl)
 f318:=b_ anv (by kernel_rfl)
 f319:=b_ anw (by kernel_rfl)
 f320:=b_ anx (by kernel_rfl)
 f337:=b_ anB (by kernel_rfl)
 f338:=b_ anC (by kernel_rfl)
 t0:=amK
 a0:=amL
 z0:=amM
 v0:=amN
 t2:=anD
 a2:=anE
 z2:=anF
 v2:=anG
 t3:=Fs
 a3:=amO
 z3:=amP
 v3:=Fu
 t4:=Ft
 a4:=amQ
 z4:=amR
 v4:=amS
 t5:=Cy
 a5:=ana
 z5:=anb
 v5:=Fv
 t9:=AB
 a9:=amT
 z9:=amU
 v9:=Fw
 t20:=amV
 a20:=amW
 z20:=amX
 v20:=amY
 t37:=yt
 a37:=amZ
 z37:=am0
 v37:=am1
 t46:=anL
 a46:=anM
 z46:=anN
 v46:=anO
 t51:=anP
 a51:=anQ
 z51:=anR
 v51:=anS
 t53:=anT
 a53:=anU
 z53:=anV
 v53:=anW
 t171:=aof
 a171:=aog
 z171:=aoh
 v171:=aoi
 t173:=aoj
 a173:=aok
 z173:=aol
 v173:=aom
 t212:=aow
 a212:=aox
 z212:=aoy
 v212:=aoz
 t213:=aoA
 a213:=aoB
 z213:=aoC
 t232:=aoD
 a232:=aoE
 z232:=aoF
 v232:=aoG
 t233:=aoH
 a233:=aoI
 z233:=aoJ
 v233:=aoK
 g17:=by kernel_rfl
 g18:=by kernel_rfl
 g19:=by kernel_rfl}
open Go.RowKit Go.Sort Go.Lib in
theorem Tryz.strconv_Itoa_small(i:Nat)(hi:i<100)(w:World):
  Calls Ψ 109 #[.int .i64 i] w fun e w'=>e= .returned (.string ⟨(Lib.decDigits i).toArray⟩)/\w'=w:=Any.strconv_Itoa_small Tryz.afP i hi w
def Tryz.afU:Go.Shelf.Ren:=⟨fun|172=>269|244=>292|245=>293|247=>303|279=>304|280=>305|281=>306|282=>307|287=>312|316=>313|171=>109|205=>314|321=>316|322=>317|243=>173|246=>222|283=>261|284=>262|285=>263|286=>264|129=>287|317=>286|318=>288|319=>289|320=>290|337=>301|338=>302|n=>n,fun|9=>9|3=>3|75=>153|76=>154|4=>4|5=>5|167=>347|37=>51|0=>0|85=>348|2=>2|168=>350|53=>284|175=>355|46=>226|210=>358|127=>241|145=>363|143=>361|21=>21|171=>314|173=>317|212=>338|51=>171|20=>20|213=>339|232=>353|233=>354|80=>161|n=>n,fun|15=>8|16=>9|17=>5|18=>6|19=>7|n=>n⟩
theorem Tryz.afT:Go.Proofs.LaysC.n172 Tryz.prog Tryz.afU:= {
 mixed:=by kernel_rfl
 f129:=b_ anc (by kernel_rfl)
 f171:=b_ amu (by kernel_rfl)
 f172:=b_ amB (by kernel_rfl)
 f205:=b_ ane (by kernel_rfl)
 f243:=b_ anf (by kernel_rfl)
 f244:=b_ ang (by kernel_rfl)
 f245:=b_ anh (by kernel_rfl)
 f246:=b_ ani (by kernel_rfl)
 f247:=b_ anj (by kernel_rfl)
 f279:=b_ ank (by kernel_rfl)
 f280:=b_ anl (by kernel_rfl)
 f281:=b_ anm (by kernel_rfl)
 f282:=b_ ann (by kernel_rfl)
 f283:=b_ ano (by kernel_rfl)
 f284:=b_ anp (by kernel_rfl)
 f285:=b_ anq (by kernel_rfl)
 f286:=b_ anr (by kernel_rfl)
 f287:=b_ ans (by kernel_rfl)
 f316:=b_ ant (by kernel_rfl)
 f317:=b_ anu (by kernel_rfl)
 f318:=b_ anv (by kernel_rfl)
 f319:=b_ anw (by kernel_rfl)
 f320:=b_ anx (by kernel_rfl)
 f321:=b_ anz (by kernel_rfl)
 f322:=b_ anA (by kernel_rfl)
 f337:=b_ anB (by kernel_rfl)
 f338:=b_ anC (by kernel_rfl)
 t0:=amK
 a0:=amL
 z0:=amM
 v0:=amN
 t2:=anD
 a2:=anE
 z2:=anF
 v2:=anG
 t3:=Fs
 a3:=amO
 z3:=amP
 v3:=Fu
 t4:=Ft
 a4:=amQ
 z4:=amR
 v4:=amS
 t5:=Cy
 a5:=ana
 z5:=anb
 v5:=Fv
 t9:=AB
 a9:=amT
 z9:=amU
 v9:=Fw
 t20:=amV
 a20:=amW
 z20:=amX
 v20:=amY
 t21:=anH
 a21:=anI
 z21:=anJ
 v21:=anK
 t37:=yt
 a37:=amZ
 z37:=am0
 v37:=am1
 t46:=anL
 a46:=anM
 z46:=anN
 v46:=anO
 t51:=anP
 a51:=anQ
 z51:=anR
 v51:=anS
 t53:=anT
 a53:=anU
 z53:=anV
 v53:=anW
 t75:=Kk
 a75:=am2
 z75:=am3
 v75:=am4
 t76:=am5
 a76:=am6
 z76:=am7
 v76:=am8
 t85:=anX
 a85:=anY
 z85:=anZ
 v85:=an0
 t127:=Kl
 a127:=am9
 z127:=am_
 v127:=am'
 t143:=an1
 a143:=an2
 z143:=an3
 v143:=an4
 t145:=an5
 a145:=an6
 z145:=an7
 v145:=an8
 t167:=an9
 a167:=an_
 z167:=an'
 v167:=aoa
 t168:=aob
 a168:=aoc
 z168:=aod
 v168:=aoe
 t171:=aof
 a171:=aog
 z171:=aoh
 v171:=aoi
 t173:=aoj
 a173:=aok
 z173:=aol
 v173:=aom
 t175:=aon
 a175:=aoo
 z175:=aoq
 v175:=aor
 t210:=aos
 a210:=aot
 z210:=aou
 v210:=aov
 t212:=aow
 a212:=aox
 z212:=aoy
 v212:=aoz
 t213:=aoA
 a213:=aoB
 z213:=aoC
 t232:=aoD
 a232:=aoE
 z232:=aoF
 v232:=aoG
 t233:=aoH
 a233:=aoI
 z233:=aoJ
 v233:=aoK
 g15:=by kernel_rfl
 g16:=by kernel_rfl
 g17:=by kernel_rfl
 g18:=by kernel_rfl
 g19:=by kernel_rfl
 t80:=Tryz.underlying161
 a80:=Tryz.isAgg161
 z80:=Tryz.sizeOf161
 v80:=Tryz.zeroValue161
 i0:=by kernel_rfl
 i2:=by kernel_rfl
 i3:=by kernel_rfl
 i4:=by kernel_rfl
 i5:=by kernel_rfl
 i9:=by kernel_rfl
 i20:=by kernel_rfl
 i21:=by kernel_rfl
 i37:=by kernel_rfl
 i46:=by kernel_rfl
 i51:=by kernel_rfl
 i53:=by kernel_rfl
 i75:=by kernel_rfl
 i76:=by kernel_rfl
 i80:=by kernel_rfl
 i85:=by kernel_rfl
 i127:=by kernel_rfl
 i143:=by kernel_rfl
 i145:=by kernel_rfl
 i167:=by kernel_rfl
 i168:=by kernel_rfl
 i171:=by kernel_rfl
 i173:=by kernel_rfl
 i175:=by kernel_rfl
 i210:=by kernel_rfl
 i212:=by kernel_rfl
 i232:=by kernel_rfl
 i233:=by kernel_rfl
 m15:=by kernel_rfl
 m16:=by kernel_rfl
 m17:=by kernel_rfl
 m18:=by kernel_rfl
 m19:=by kernel_rfl
 c0:=by kernel_rfl
 c2:=by kernel_rfl
 c3:=by kernel_rfl
 c4:=by kernel_rfl
 c5:=by kernel_rfl
 c9:=by kernel_rfl
 c20:=by kernel_rfl
 c21:=by kernel_rfl
 c37:=by kernel_rfl
 c46:=by kernel_rfl
 c51:=by kernel_rfl
 c53:=by kernel_rfl
 c75:=by kernel_rfl
 c76:=by kernel_rfl
 c80:=by kernel_rfl
 c85:=by kernel_rfl
 c127:=by kernel_rfl
 c143:=by kernel_rfl
 c145:=by kernel_rfl
 c167:=by kernel_rfl
 c168:=by kernel_rfl
 c171:=by kernel_rfl
 c173:=by kernel_rfl
 c175:=by kernel_rfl
 c210:=by kernel_rfl
 c212:=by kernel_rfl
 c213:=by kernel_rfl
 c232:=by kernel_rfl
 c233:=by kernel_rfl}
open Go.RowKit in
theorem Tryz.strconv_Atoi_err(s:ByteArray)(hl:s.size<=18)(h:Lib.atoi s.data.toList=none)(ev:Value)(w:World)(hv:w.cell? ⟨8,0,none⟩=some ev)(aq:ev= .nilIface\/∃te pe,ev= .iface te pe):
  Calls Ψ 269 #[.string s] w fun e w'=>∃N,e= .returned (.tuple #[.int .i64 0,.iface 350 (.pointer (some ⟨N,0,none⟩))])/\w.heap.size<=N/\w'.heap[N]?=some (.cells #[.string ⟨#[65,116,111,105]⟩,.string s,ev] 358 (0,0))/\Below w.heap.size w w':=Any.strconv_Atoi_err Tryz.afT s hl h ev w hv aq
end Go.Proofs
