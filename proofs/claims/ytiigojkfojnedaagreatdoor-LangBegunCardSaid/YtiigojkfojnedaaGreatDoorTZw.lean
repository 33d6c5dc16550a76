import Derived.Test.YtiigojkfojnedaaGreatDoorTLa
import Derived.Test.YtiigojkfojnedaaGreatDoorProg
import Derived.Shelf.SlMaps.Clone
import Derived.Shelf.Strings.OnBuilder
import Derived.Shelf.Small.Strs
import Derived.Shelf.Strconv.Atoi
import Derived.Shelf.Strconv.Itoa3
import Derived.Shelf.Strconv.AtoiErr
set_option linter.all false
set_option maxRecDepth 100000
set_option maxHeartbeats 8000000
open Go.World renaming setCell->amo,shape?->amt
open Array renaming getElem?_modify->JO
open Go.Proofs.Tryz renaming prog->Ψ,func170->amp,ntmps170->amq,underlying148->J',underlying290->amr,func221->ams,func106->amk,underlying51->wz,underlying9->Aj,underlying241->Kb,func111->amm,ntmps111->amu,underlying261->amv,underlying0->amw,isAgg0->amx,sizeOf0->amy,zeroValue0->amz,underlying3->E4,isAgg3->amA,sizeOf3->amB,zeroValue3->E6,underlying4->E5,isAgg4->amC,sizeOf4->amD,zeroValue4->amE,isAgg9->amF,sizeOf9->amG,zeroValue9->E8,underlying20->amH,isAgg20->amI,sizeOf20->amJ,zeroValue20->amK,isAgg51->amL,sizeOf51->amM,zeroValue51->amN,underlying153->Ka,isAgg153->amO,sizeOf153->amP,zeroValue153->amQ,underlying154->amR,isAgg154->amS,sizeOf154->amT,zeroValue154->amU,isAgg241->amV,sizeOf241->amW,zeroValue241->amX,underlying5->Cb,isAgg5->amY,sizeOf5->amZ,zeroValue5->E7,func287->am0,func109->amg,func269->amn,func314->am1,func173->am2,func292->am3,func293->am4,func222->am5,func303->am6,func304->am7,func305->am8,func306->am9,func307->am_,func261->am',func262->ana,func263->anb,func264->anc,func312->ane,func313->anf,func286->ang,func288->anh,func289->ani,func290->anj,func316->ank,func317->anl,func301->anm,func302->ann,underlying2->ano,isAgg2->anp,sizeOf2->anq,zeroValue2->anr,underlying21->ans,isAgg21->ant,sizeOf21->anu,zeroValue21->anv,underlying226->anw,isAgg226->anx,sizeOf226->anz,zeroValue226->anA,underlying171->anB,isAgg171->anC,sizeOf171->anD,zeroValue171->anE,underlying284->anF,isAgg284->anG,sizeOf284->anH,zeroValue284->anI,underlying348->anJ,isAgg348->anK,sizeOf348->anL,zeroValue348->anM,underlying361->anN,isAgg361->anO,sizeOf361->anP,zeroValue361->anQ,underlying363->anR,isAgg363->anS,sizeOf363->anT,zeroValue363->anU,underlying347->anV,isAgg347->anW,sizeOf347->anX,zeroValue347->anY,underlying350->anZ,isAgg350->an0,sizeOf350->an1,zeroValue350->an2,underlying314->an3,isAgg314->an4,sizeOf314->an5,zeroValue314->an6,underlying317->an7,isAgg317->an8,sizeOf317->an9,zeroValue317->an_,underlying355->an',isAgg355->aoa,sizeOf355->aob,zeroValue355->aoc,underlying358->aod,isAgg358->aoe,sizeOf358->aof,zeroValue358->aog,underlying338->aoh,isAgg338->aoi,sizeOf338->aoj,zeroValue338->aok,underlying339->aol,isAgg339->aom,sizeOf339->aon,underlying353->aoo,isAgg353->aoq,sizeOf353->aor,zeroValue353->aos,underlying354->aot,isAgg354->aou,sizeOf354->aov,zeroValue354->aow
open Option renaming map_eq_some_iff->bE
namespace Go.Δ.Tz
open Go.Δ Go.Proofs Go.RowKit
theorem PG(w:World)(b i k:Nat)(v:Value)(h:k≠b):(w.setCell ⟨b,i,none⟩ v).heap[k]?=w.heap[k]?:=by simp only[amo,JO];rw[if_neg (fun e=>h e.symm)]
theorem Xw{w w':World}{e:TypeId}{s:List Nat}{v:Value}{r:Option Nat}(h:pv w e s v r)(hk:∀k,r=some k->w'.heap[k]?=w.heap[k]?):pv w' e s v r:=by
 rcases h with h|⟨g,cap,cur,rfl,h2,h3,h4,h5⟩
 ·exact .inl h
 ·exact .inr ⟨g,cap,cur,rfl,h2,h3,(hk g rfl).trans h4,h5⟩
theorem akf{P:Program}{w:World}{ops:Array Oper}{rest:List Oper}{o:Oper}{a:Act}{Q:Exit->Act->World->Prop}(oM:o.guard=none)(sl x:Operand)(t u:TypeId)
  (ho:o.op= .call {callee:= .builtin .append,args:= #[sl,x],argTypes:= #[t,u]}) {e:TypeId} {i:TypeInfo} (ht:P.underlying t=some (.slice e)) (hu:P.underlying u=some .string) (hi:P.info? e=some i)
  (hz:i.zero=some (.int .u8 0)) (DJ:i.size=1) (HB:i.bytes=1) {v:Value} {r:Option Nat} {q:List Nat} (hs:a.eval sl=v) (hv:pv w e q v r) (s:ByteArray) (hx:a.eval x= .string s)
  (hlen:q.length+s.size<=140737488355328)
  (h:∀(v':Value) (w':World) (r':Option Nat),pv w' e (q++s.data.toList.map UInt8.toNat) v' r'->(r'=r\/r'=some w.heap.size)->w.heap.size<=w'.heap.size->w'.os=w.os->w'.tape=w.tape->w'.output=w.output→
   (∀k,k<w.heap.size->r≠some k->w'.heap[k]?=w.heap[k]?)->wpList P ops Q rest (a.put o.dst v') w'):wpList P ops Q (o::rest) a w:=by
 refine wpList_plain oM fun K hK=>?_;obtain⟨v',w',r',hr,h1,h2,h3,h4,h5,h6,h7⟩:=Zf (P:=P) (ty:=o.type) ht hu hi hz DJ HB hv s hlen;unfold Oper.wp execOp;simp only[ho,resolve,invoke,builtin,Sem.run_bind,Sem.run_pure,Result.andThen_ok,List.map_toArray,List.map_cons,List.map_nil,hs,hx,hr];exact hK _ _ (h v' w' r' h1 h2 h3 h4 h5 h6 h7)
def Checked(w w':World)(b:Nat)(v:Value):Prop:=
 w'.heap[b]?=some (.cells #[.pointer (some ⟨b,0,none⟩),v] 150 (0,0))/\w'.heap.size=w.heap.size/\w'.os=w.os/\w'.tape=w.tape/\w'.output=w.output/\∀k,k≠b->w'.heap[k]?=w.heap[k]?
theorem aai(b:Nat)(w:World)(h0:w.cell? ⟨b,0,none⟩=some (.pointer (some ⟨b,0,none⟩))):
  Calls Ψ 170 #[.pointer (some ⟨b,0,none⟩)] w fun e w'=>e= .returned (.tuple #[])/\w'=w:=by
 obtain⟨j,hj,_⟩:=bE.1 (show(Ψ.info? 150).map (·.size)=some 2 by kernel_rfl)
 go_enter amp,amq
 go_wp2
 rw[Lib.run_neq_ptr_same w _ J' hj]
 go_wp2
 go_end0
 exact⟨rfl,rfl⟩
theorem aah(b:Nat)(w:World)(h0:w.cell? ⟨b,0,none⟩=some (.pointer none))(ej:w.shape? b=some (150,2))(hfz:w.frozen? ⟨b,0,none⟩=false):
  Calls Ψ 170 #[.pointer (some ⟨b,0,none⟩)] w fun e w'=>e= .returned (.tuple #[])/\w'=w.setCell ⟨b,0,none⟩ (.pointer (some ⟨b,0,none⟩)):=by
 obtain⟨j,hj,vw⟩:=bE.1 (show(Ψ.info? 150).map (·.size)=some 2 by kernel_rfl)
 go_enter amp,amq
 go_wp2
 rw[Lib.run_to_unsafe w ⟨b,0,none⟩ J' amr hj (by rw[vw];decide) ej (Nat.zero_lt_succ 1)];simp only[Result.andThen];rw[Oper.upon_value]
 go_wp2
 rw[run_callFunc_extern ams (by kernel_rfl) (by kernel_rfl) (by kernel_rfl) (e:=Extern.AbiNoEscape.same) (by kernel_rfl)];rw[Lib.run_noEscape];simp only[Result.andThen];rw[Oper.upon_value]
 go_wp2
 rw[Lib.run_from_unsafe w ⟨b,0,none⟩ amr J' hj ej (by kernel_rfl)];simp only[Result.andThen];rw[Oper.upon_value]
 go_wp2
 go_end0
 exact⟨rfl,rfl⟩
theorem aag(b:Nat)(p v:Value)(w:World)(hb:w.heap[b]?=some (.cells #[p,v] 150 (0,0)))(hp:p= .pointer none\/p= .pointer (some ⟨b,0,none⟩)):
  Calls Ψ 170 #[.pointer (some ⟨b,0,none⟩)] w fun e w'=>e= .returned (.tuple #[])/\Checked w w' b v:=by
 have c0:w.cell? ⟨b,0,none⟩=some p:=by rw[Lib.cell_of_heap hb];rfl
 rcases hp with rfl|rfl
 ·refine(aah b w c0 (by simp[amt,hb]) (by simp[World.frozen?,hb])).mono fun e w' ⟨he,hw⟩=>?_;subst hw;refine⟨he,?_,by simp[amo],rfl,rfl,rfl,fun k hk=>PG w b 0 k _ hk⟩;simp[amo,JO,hb]
 ·refine(aai b w c0).mono fun e w' ⟨he,hw⟩=>?_;subst hw;exact⟨he,hb,rfl,rfl,rfl,rfl,fun k hk=>rfl⟩
theorem writeString(b:Nat)(s:ByteArray)(p v:Value)(r:Option Nat)(q:List Nat)(w:World)(hb:w.heap[b]?=some (.cells #[p,v] 150 (0,0)))(hp:p= .pointer none\/p= .pointer (some ⟨b,0,none⟩))
  (iu:pv w 5 q v r) (xq:r≠some b) (hlen:q.length+s.size<=140737488355328):
  Calls Ψ 106 #[.pointer (some ⟨b,0,none⟩),.string s] w fun en w'=>en= .returned (.tuple #[.int .i64 s.size,.nilIface])/\P_ w w' b r/\∃p' v' r',w'.heap[b]?=some (.cells #[p',v'] 150 (0,0))∧
   (p'= .pointer none\/p'= .pointer (some ⟨b,0,none⟩))/\pv w' 5 (q++s.data.toList.map UInt8.toNat) v' r'/\(r'=r\/∃k,r'=some k/\w.heap.size<=k):=by
 obtain⟨i0,hi,hz0,fT,gh⟩:=info_parts (show(Ψ.info? 5).map (fun i=>(i.zero,i.size,i.bytes))=some (some (.int .u8 0),1,1) by kernel_rfl)
 go_enter amk,Tryz.ntmps106
 go_wp2_with (go_at_call 170;refine(aag b p v _ hb hp).mono ?_)
 rintro e w1 ⟨rfl,hc⟩
 have dt:=hc.1;have c0:w1.cell? ⟨b,0,none⟩=some (.pointer (some ⟨b,0,none⟩)):=by rw[Lib.cell_of_heap dt];rfl
 have c1:w1.cell? ⟨b,1,none⟩=some v:=by rw[Lib.cell_of_heap dt];rfl
 have qC:pv w1 5 q v r:=Xw iu fun k hk=>hc.2.2.2.2.2 k fun e=>xq (by rw[hk,e])
 go_wp2_with (at_builtin;refine akf rfl _ _ 51 9 rfl wz Aj hi hz0 fT gh rfl qC s rfl hlen ?_)
 intro v' w2 r' sX jz ak4 acF ac6 acH gE;have χ:b<w1.heap.size:=(Array.getElem?_eq_some_iff.1 dt).1;have dy:w2.heap[b]?=some (.cells #[.pointer (some ⟨b,0,none⟩),v] 150 (0,0)):=(gE b χ xq).trans dt;have d0:w2.cell? ⟨b,0,none⟩=some (.pointer (some ⟨b,0,none⟩)):=by rw[Lib.cell_of_heap dy];rfl
 have d1:w2.cell? ⟨b,1,none⟩=some v:=by rw[Lib.cell_of_heap dy];rfl
 have f1:w2.frozen? ⟨b,1,none⟩=false:=Lib.frozen_of_heap dy 1;have jX:∃ao n' cap,v'= .slice ao n' cap:=by
  rcases sX with⟨hv,_⟩|⟨g,cap,cur,_,hv,_⟩
  ·exact⟨_,_,_,hv⟩
  ·exact⟨_,_,_,hv⟩
 obtain⟨ao,n',cap,rfl⟩:=jX;have acS:r'≠some b:=by
  rcases jz with h|h
  ·rw[h];exact xq
  ·rw[h];intro e;cases e;omega
 go_wp2
 go_ret2
 obtain⟨-,Vh,acE,ac5,acG,pO⟩:=hc;refine⟨rfl,⟨by simp[amo];omega,acF.trans acE,ac6.trans ac5,acH.trans acG,fun k hk xh Dn=>?_⟩,.pointer (some ⟨b,0,none⟩),.slice ao n' cap,r',?_,.inr rfl,?_,?_⟩
 ·rw[PG _ _ _ _ _ xh,gE k (by omega) Dn,pO k xh]
 ·simp[amo,JO,dy]
 ·exact Xw sX fun k hk=>PG _ _ _ _ _ fun e=>acS (by rw[hk,e])
 ·rcases jz with h|h
  ·exact .inl h
  ·exact .inr ⟨_,h,by omega⟩
theorem Y7(b g cap:Nat)(p:Value)(cur:Array Value)(l:List UInt8)(w:World)(h0:l≠[])(hb:w.heap[b]?=some (.cells #[p,.slice (some ⟨g,0,none⟩) l.length cap] 150 (0,0)))
  (hg:w.heap[g]?=some (.cells cur 5 (0,0))) (jf:cur.size=cap) (lx:l.length<=cap) (C':cap<=maxLen) (ij:∀(j:Nat) (x:UInt8),l[j]?=some x->cur[j]?=some (Value.int .u8 x.toNat)):
  Calls Ψ 111 #[.pointer (some ⟨b,0,none⟩)] w fun e w'=>e= .returned (.string ⟨l.toArray⟩)/\w'=w.drew.freeze ⟨g,0,none⟩ l.length:=by
 have xk:l.length≠0:=by simpa using h0
 have jM:maxLen=9223372036854775807:=rfl;have oM:w.drew.heap[g]?=some (.cells cur 5 (0,0)):=hg;have c1:w.drew.cell? ⟨b,1,none⟩=some (.slice (some ⟨g,0,none⟩) l.length cap):=by have:w.drew.heap[b]?=some (.cells #[p,.slice (some ⟨g,0,none⟩) l.length cap] 150 (0,0)):=hb;rw[Lib.cell_of_heap this];rfl
 have hSD:(Builtin.unsafeSliceData_ #[51] 241 #[.slice (some ⟨g,0,none⟩) l.length cap]).run Ψ w.drew= .ok (.pointer (some ⟨g,0,none⟩)) w.drew:=
  Lib.run_unsafeSliceData_row _ _ _ _ _ _ (by omega)
 have hUS:(Builtin.unsafeString_ #[241,3] 9 #[.pointer (some ⟨g,0,none⟩),.int .i64 l.length]).run Ψ w.drew= .ok (.string ⟨l.toArray⟩) (w.drew.freeze ⟨g,0,none⟩ l.length):=by
  refine Lib.run_unsafeString_row w.drew 241 3 9 5 Kb (by kernel_rfl) g cur.size (by simp[amt,oM]) l h0 (by omega) (by omega) ?_;intro j x hx;have hz:((⟨g,0,none⟩:Addr).add j)=⟨g,j,none⟩:=by rw[Addr.add_mid];simp
  rw[hz,Lib.cell_of_heap oM];exact ij j x hx
 clear hb hg oM ij
 go_enter amm,amu
 go_wp2
 go_region
 all_goals(go_wp2;go_ret;exact⟨rfl,rfl⟩)
theorem Y6(b:Nat)(p:Value)(w:World)(hb:w.heap[b]?=some (.cells #[p,.slice none 0 0] 150 (0,0))):
  Calls Ψ 111 #[.pointer (some ⟨b,0,none⟩)] w fun e w'=>e= .returned (.string ⟨#[]⟩)/\w'=w.drew:=by
 have hSD:(Builtin.unsafeSliceData_ #[51] 241 #[.slice none 0 0]).run Ψ w.drew= .ok (.pointer none) w.drew:=Lib.run_unsafeSliceData_nil w.drew _ _ _ _;have hUS:(Builtin.unsafeString_ #[241,3] 9 #[.pointer none,.int .i64 0]).run Ψ w.drew= .ok (.string .empty) w.drew:=Lib.run_unsafeString_none w.drew _ _ _ none;have c1:w.drew.cell? ⟨b,1,none⟩=some (.slice none 0 0):=by have:w.drew.heap[b]?=some (.cells #[p,.slice none 0 0] 150 (0,0)):=hb;rw[Lib.cell_of_heap this];rfl
 clear hb
 go_enter amm,amu
 go_wp2
 go_region
 all_goals(go_wp2;go_ret;exact⟨rfl,rfl⟩)
theorem afV(b:Nat)(es:Array MapEntry)(clock:Nat)(w:World)(hb:w.heap[b]?=some (.map es clock)):
  Calls Ψ 277 #[.map (some b)] w fun e w'=>e= .returned (.map (some w.heap.size))/\w'=w.alloc (.map es clock):=by
 have hq:=fun w=>run_eql_map_nil_sl (P:=Ψ) w 261 _ _ (some b) amv
 go_enter Tryz.func277,Tryz.ntmps277
 go_wp2
 rw[run_callFunc_extern Tryz.func299 (by kernel_rfl) (by kernel_rfl) (by kernel_rfl) (e:=Extern.MapsClone.clone) (by kernel_rfl),run_maps_clone_sl w 261 hb];simp only[Result.andThen];rw[Oper.upon_value]
 go_wp2
 rw[run_typeAssert_map_sl _ 261 20 _ _ _ amv];simp only[Result.andThen];rw[Oper.upon_value]
 go_wp2
 go_ret
 exact⟨rfl,rfl⟩
end Go.Δ.Tz
namespace Go.Proofs
open Go.Shelf
theorem ca{A:Type}{a b:A}{o:Option A}(h:o=some a)(e:a=b):o=some b:=h.trans (congrArg some e)
def Tryz.Wa:Go.Shelf.Ren:=⟨fun|156=>174|165=>161|166=>106|169=>111|240=>170|241=>216|276=>221|277=>256|n=>n,fun|31=>42|9=>9|3=>3|4=>4|0=>0|20=>20|72=>150|76=>154|70=>148|37=>51|75=>153|127=>241|164=>290|5=>5|80=>161|n=>n,fun|n=>n⟩
theorem Tryz.V':Go.Proofs.Lays.n156 Tryz.prog Tryz.Wa:= {
 mixed:=by kernel_rfl
 f156:=ca Tryz.func174 (by kernel_rfl)
 f165:=ca Tryz.func161 (by kernel_rfl)
 f166:=ca amk (by kernel_rfl)
 f169:=ca amm (by kernel_rfl)
 f240:=ca amp (by kernel_rfl)
 f241:=ca Tryz.func216 (by kernel_rfl)
 f276:=ca ams (by kernel_rfl)
 f277:=ca Tryz.func256 (by kernel_rfl)
 t0:=amw
 a0:=amx
 z0:=amy
 v0:=amz
 t3:=E4
 a3:=amA
 z3:=amB
 v3:=E6
 t4:=E5
 a4:=amC
 z4:=amD
 v4:=amE
 t9:=Aj
 a9:=amF
 z9:=amG
 v9:=E8
 t20:=amH
 a20:=amI
 z20:=amJ
 v20:=amK
 t31:=Tryz.underlying42
 a31:=Tryz.isAgg42
 z31:=Tryz.sizeOf42
 v31:=Tryz.zeroValue42
 t37:=wz
 a37:=amL
 z37:=amM
 v37:=amN
 t70:=J'
 a70:=Tryz.isAgg148
 z70:=Tryz.sizeOf148
 v70:=Tryz.zeroValue148
 t72:=Tryz.underlying150
 a72:=Tryz.isAgg150
 z72:=Tryz.sizeOf150
 v72:=Tryz.zeroValue150
 t75:=Ka
 a75:=amO
 z75:=amP
 v75:=amQ
 t76:=amR
 a76:=amS
 z76:=amT
 v76:=amU
 t127:=Kb
 a127:=amV
 z127:=amW
 v127:=amX
 t164:=amr
 a164:=Tryz.isAgg290
 z164:=Tryz.sizeOf290
 v164:=Tryz.zeroValue290}
theorem Tryz.P8:Builder.Extra Tryz.prog Tryz.Wa:= {
 sizeBuilder:=by kernel_rfl
 liesBuilder:=by kernel_rfl
 t5:=Cb
 a5:=amY
 z5:=amZ
 v5:=E7
 infoByte:=by kernel_rfl
 cellsByte:=by kernel_rfl
 sizeByte:=by kernel_rfl
 neB5:=by decide}
open Go.RowKit in
theorem Tryz.strings_Join_none(a:Option Addr)(c:Nat)(sep:ByteArray)(w:World):
  Calls Ψ 174 #[.slice a 0 c,.string sep] w fun e w'=>e= .returned (.string ⟨#[]⟩)/\w'=w:=Any.strings_Join_none Tryz.V' Tryz.P8 a c sep w
open Go.RowKit in
theorem Tryz.strings_Join(bk o c:Nat)(xs:List ByteArray)(sep:ByteArray)(w:World)(C_:∀(j:Nat) x,xs[j]?=some x->w.cell? ⟨bk,o+j,none⟩=some (.string x))(MF:bk<w.heap.size)(hN:xs.length<=140737488355328)(dP:xs.length<=c)(hlen:(Lib.join (xs.map (·.data.toList)) sep.data.toList).length<=140737488355328):
  Calls Ψ 174 #[.slice (some ⟨bk,o,none⟩) xs.length c,.string sep] w fun e w'=>e= .returned (.string ⟨(Lib.join (xs.map (·.data.toList)) sep.data.toList).toArray⟩)/\Below w.heap.size w w':=Any.strings_Join Tryz.V' Tryz.P8 bk o c xs sep w C_ MF hN dP hlen
def Tryz.afq:Go.Shelf.Ren:=⟨fun|137=>238|217=>251|266=>284|n=>n,fun|9=>9|5=>5|3=>3|n=>n,fun|n=>n⟩
theorem Tryz.afp:Go.Proofs.Lays.n137 Tryz.prog Tryz.afq:= {
 mixed:=by kernel_rfl
 f137:=ca Tryz.func238 (by kernel_rfl)
 f217:=ca Tryz.func251 (by kernel_rfl)
 f266:=ca Tryz.func284 (by kernel_rfl)
 t3:=E4
 a3:=amA
 z3:=amB
 v3:=E6
 t5:=Cb
 a5:=amY
 z5:=amZ
 v5:=E7
 t9:=Aj
 a9:=amF
 z9:=amG
 v9:=E8}
open Go.RowKit in
theorem Tryz.strings_IndexByte(s:ByteArray)(c:Int)(w:World):
  Calls Ψ 238 #[.string s,.int .u8 c] w fun e w'=>e= .returned (.int .i64 (Lib.indexByte s.data.toList c.toNat.toUInt8))/\w'=w:=Any.strings_IndexByte Tryz.afp s c w
def Tryz.afu:Go.Shelf.Ren:=⟨fun|172=>269|244=>292|245=>293|247=>303|279=>304|280=>305|281=>306|282=>307|287=>312|316=>313|171=>109|205=>314|321=>316|322=>317|243=>173|246=>222|283=>261|284=>262|285=>263|286=>264|129=>287|317=>286|318=>288|319=>289|320=>290|337=>301|338=>302|n=>n,fun|9=>9|3=>3|75=>153|76=>154|4=>4|5=>5|167=>347|37=>51|0=>0|85=>348|2=>2|168=>350|53=>284|175=>355|46=>226|210=>358|127=>241|145=>363|143=>361|21=>21|171=>314|173=>317|212=>338|51=>171|20=>20|213=>339|232=>353|233=>354|80=>161|n=>n,fun|15=>8|16=>9|17=>5|18=>6|19=>7|n=>n⟩
theorem Tryz.aft:Go.Proofs.Lays.n172 Tryz.prog Tryz.afu:= {
 mixed:=by kernel_rfl
 f129:=ca am0 (by kernel_rfl)
 f171:=ca amg (by kernel_rfl)
 f172:=ca amn (by kernel_rfl)
 f205:=ca am1 (by kernel_rfl)
 f243:=ca am2 (by kernel_rfl)
 f244:=ca am3 (by kernel_rfl)
 f245:=ca am4 (by kernel_rfl)
 f246:=ca am5 (by kernel_rfl)
 f247:=ca am6 (by kernel_rfl)
 f279:=ca am7 (by kernel_rfl)
 f280:=ca am8 (by kernel_rfl)
 f281:=ca am9 (by kernel_rfl)
 f282:=ca am_ (by kernel_rfl)
 f283:=ca am' (by kernel_rfl)
 f284:=ca ana (by kernel_rfl)
 f285:=ca anb (by kernel_rfl)
 f286:=ca anc (by kernel_rfl)
 f287:=ca ane (by kernel_rfl)
 f316:=ca anf (by kernel_rfl)
 f317:=ca ang (by kernel_rfl)
 f318:=ca anh (by kernel_rfl)
 f319:=ca ani (by kernel_rfl)
 f320:=ca anj (by kernel_rfl)
 f321:=ca ank (by kernel_rfl)
 f322:=ca anl (by kernel_rfl)
 f337:=ca anm (by kernel_rfl)
 f338:=ca ann (by kernel_rfl)
 t0:=amw
 a0:=amx
 z0:=amy
 v0:=amz
 t2:=ano
 a2:=anp
 z2:=anq
 v2:=anr
 t3:=E4
 a3:=amA
 z3:=amB
 v3:=E6
 t4:=E5
 a4:=amC
 z4:=amD
 v4:=amE
 t5:=Cb
 a5:=amY
 z5:=amZ
 v5:=E7
 t9:=Aj
 a9:=amF
 z9:=amG
 v9:=E8
 t20:=amH
 a20:=amI
 z20:=amJ
 v20:=amK
 t21:=ans
 a21:=ant
 z21:=anu
 v21:=anv
 t37:=wz
 a37:=amL
 z37:=amM
 v37:=amN
 t46:=anw
 a46:=anx
 z46:=anz
 v46:=anA
 t51:=anB
 a51:=anC
 z51:=anD
 v51:=anE
 t53:=anF
 a53:=anG
 z53:=anH
 v53:=anI
 t75:=Ka
 a75:=amO
 z75:=amP
 v75:=amQ
 t76:=amR
 a76:=amS
 z76:=amT
 v76:=amU
 t85:=anJ
 a85:=anK
 z85:=anL
 v85:=anM
 t127:=Kb
 a127:=amV
 z127:=amW
 v127:=amX
 t143:=anN
 a143:=anO
 z143:=anP
 v143:=anQ
 t145:=anR
 a145:=anS
 z145:=anT
 v145:=anU
 t167:=anV
 a167:=anW
 z167:=anX
 v167:=anY
 t168:=anZ
 a168:=an0
 z168:=an1
 v168:=an2
 t171:=an3
 a171:=an4
 z171:=an5
 v171:=an6
 t173:=an7
 a173:=an8
 z173:=an9
 v173:=an_
 t175:=an'
 a175:=aoa
 z175:=aob
 v175:=aoc
 t210:=aod
 a210:=aoe
 z210:=aof
 v210:=aog
 t212:=aoh
 a212:=aoi
 z212:=aoj
 v212:=aok
 t213:=aol
 a213:=aom
 z213:=aon
 t232:=aoo
 a232:=aoq
 z232:=aor
 v232:=aos
 t233:=aot
 a233:=aou
 z233:=aov
 v233:=aow
 g15:=by kernel_rfl
 g16:=by kernel_rfl
 g17:=by kernel_rfl
 g18:=by kernel_rfl
 g19:=by kernel_rfl}
open Go.RowKit in
theorem Tryz.strconv_Atoi(s:ByteArray)(n:Int)(hl:s.size<=18)(h:Lib.atoi s.data.toList=some n)(w:World):
  Calls Ψ 269 #[.string s] w fun e w'=>e= .returned (.tuple #[.int .i64 n,.nilIface])/\∃t,w'=Lib.bytesWorld w 5 t:=Any.strconv_Atoi Tryz.aft s n hl h w
def Tryz.afs:Go.Shelf.Ren:=⟨fun|171=>109|243=>173|246=>222|283=>261|284=>262|285=>263|286=>264|129=>287|317=>286|318=>288|319=>289|320=>290|337=>301|338=>302|n=>n,fun|3=>3|9=>9|2=>2|4=>4|171=>314|0=>0|53=>284|37=>51|5=>5|173=>317|212=>338|51=>171|20=>20|213=>339|46=>226|232=>353|233=>354|n=>n,fun|17=>5|18=>6|19=>7|n=>n⟩
theorem Tryz.afr:Go.Proofs.Lays.n171 Tryz.prog Tryz.afs:= {
 mixed:=by kernel_rfl
 f129:=ca am0 (by kernel_rfl)
 f171:=ca amg (by kernel_rfl)
 f243:=ca am2 (by kernel_rfl)
 f246:=ca am5 (by kernel_rfl)
 f283:=ca am' (by kernel_rfl)
 f284:=ca ana (by kernel_rfl)
 f285:=ca anb (by kernel_rfl)
 f286:=ca anc (by kernel_rfl)
 f317:=ca ang (by kernel_rfl)
 f318:=ca anh (by kernel_rfl)
 f319:=ca ani (by kernel_rfl)
 f320:=ca anj (by kernel_rfl)
 f337:=ca anm (by kernel_rfl)
 f338:=ca ann (by kernel_rfl)
 t0:=amw
 a0:=amx
 z0:=amy
 v0:=amz
 t2:=ano
 a2:=anp
 z2:=anq
 v2:=anr
 t3:=E4
 a3:=amA
 z3:=amB
 v3:=E6
 t4:=E5
 a4:=amC
 z4:=amD
 v4:=amE
 t5:=Cb
 a5:=amY
 z5:=amZ
 v5:=E7
 t9:=Aj
 a9:=amF
 z9:=amG
 v9:=E8
 t20:=amH
 a20:=amI
 z20:=amJ
 v20:=amK
 t37:=wz
 a37:=amL
 z37:=amM
 v37:=amN
 t46:=anw
 a46:=anx
 z46:=anz
 v46:=anA
 t51:=anB
 a51:=anC
 z51:=anD
 v51:=anE
 t53:=anF
 a53:=anG
 z53:=anH
 v53:=anI
 t171:=an3
 a171:=an4
 z171:=an5
 v171:=an6
 t173:=an7
 a173:=an8
 z173:=an9
 v173:=an_
 t212:=aoh
 a212:=aoi
 z212:=aoj
 v212:=aok
 t213:=aol
 a213:=aom
 z213:=aon
 t232:=aoo
 a232:=aoq
 z232:=aor
 v232:=aos
 t233:=aot
 a233:=aou
 z233:=aov
 v233:=aow
 g17:=by kernel_rfl
 g18:=by kernel_rfl
 g19:=by kernel_rfl}
open Go.RowKit Go.Sort Go.Lib in
theorem Tryz.strconv_Itoa_small(i:Nat)(hi:i<100)(w:World):
  Calls Ψ 109 #[.int .i64 i] w fun e w'=>e= .returned (.string ⟨(Lib.decDigits i).toArray⟩)/\w'=w:=Any.strconv_Itoa_small Tryz.afr i hi w
def Tryz.afw:Go.Shelf.Ren:=⟨fun|172=>269|244=>292|245=>293|247=>303|279=>304|280=>305|281=>306|282=>307|287=>312|316=>313|171=>109|205=>314|321=>316|322=>317|243=>173|246=>222|283=>261|284=>262|285=>263|286=>264|129=>287|317=>286|318=>288|319=>289|320=>290|337=>301|338=>302|n=>n,fun|9=>9|3=>3|75=>153|76=>154|4=>4|5=>5|167=>347|37=>51|0=>0|85=>348|2=>2|168=>350|53=>284|175=>355|46=>226|210=>358|127=>241|145=>363|143=>361|21=>21|171=>314|173=>317|212=>338|51=>171|20=>20|213=>339|232=>353|233=>354|80=>161|n=>n,fun|15=>8|16=>9|17=>5|18=>6|19=>7|n=>n⟩
theorem Tryz.afv:Go.Proofs.LaysC.n172 Tryz.prog Tryz.afw:= {
 mixed:=by kernel_rfl
 f129:=ca am0 (by kernel_rfl)
 f171:=ca amg (by kernel_rfl)
 f172:=ca amn (by kernel_rfl)
 f205:=ca am1 (by kernel_rfl)
 f243:=ca am2 (by kernel_rfl)
 f244:=ca am3 (by kernel_rfl)
 f245:=ca am4 (by kernel_rfl)
 f246:=ca am5 (by kernel_rfl)
 f247:=ca am6 (by kernel_rfl)
 f279:=ca am7 (by kernel_rfl)
 f280:=ca am8 (by kernel_rfl)
 f281:=ca am9 (by kernel_rfl)
 f282:=ca am_ (by kernel_rfl)
 f283:=ca am' (by kernel_rfl)
 f284:=ca ana (by kernel_rfl)
 f285:=ca anb (by kernel_rfl)
 f286:=ca anc (by kernel_rfl)
 f287:=ca ane (by kernel_rfl)
 f316:=ca anf (by kernel_rfl)
 f317:=ca ang (by kernel_rfl)
 f318:=ca anh (by kernel_rfl)
 f319:=ca ani (by kernel_rfl)
 f320:=ca anj (by kernel_rfl)
 f321:=ca ank (by kernel_rfl)
 f322:=ca anl (by kernel_rfl)
 f337:=ca anm (by kernel_rfl)
 f338:=ca ann (by kernel_rfl)
 t0:=amw
 a0:=amx
 z0:=amy
 v0:=amz
 t2:=ano
 a2:=anp
 z2:=anq
 v2:=anr
 t3:=E4
 a3:=amA
 z3:=amB
 v3:=E6
 t4:=E5
 a4:=amC
 z4:=amD
 v4:=amE
 t5:=Cb
 a5:=amY
 z5:=amZ
 v5:=E7
 t9:=Aj
 a9:=amF
 z9:=amG
 v9:=E8
 t20:=amH
 a20:=amI
 z20:=amJ
 v20:=amK
 t21:=ans
 a21:=ant
 z21:=anu
 v21:=anv
 t37:=wz
 a37:=amL
 z37:=amM
 v37:=amN
 t46:=anw
 a46:=anx
 z46:=anz
 v46:=anA
 t51:=anB
 a51:=anC
 z51:=anD
 v51:=anE
 t53:=anF
 a53:=anG
 z53:=anH
 v53:=anI
 t75:=Ka
 a75:=amO
 z75:=amP
 v75:=amQ
 t76:=amR
 a76:=amS
 z76:=amT
 v76:=amU
 t85:=anJ
 a85:=anK
 z85:=anL
 v85:=anM
 t127:=Kb
 a127:=amV
 z127:=amW
 v127:=amX
 t143:=anN
 a143:=anO
 z143:=anP
 v143:=anQ
 t145:=anR
 a145:=anS
 z145:=anT
 v145:=anU
 t167:=anV
 a167:=anW
 z167:=anX
 v167:=anY
 t168:=anZ
 a168:=an0
 z168:=an1
 v168:=an2
 t171:=an3
 a171:=an4
 z171:=an5
 v171:=an6
 t173:=an7
 a173:=an8
 z173:=an9
 v173:=an_
 t175:=an'
 a175:=aoa
 z175:=aob
 v175:=aoc
 t210:=aod
 a210:=aoe
 z210:=aof
 v210:=aog
 t212:=aoh
 a212:=aoi
 z212:=aoj
 v212:=aok
 t213:=aol
 a213:=aom
 z213:=aon
 t232:=aoo
 a232:=aoq
 z232:=aor
 v232:=aos
 t233:=aot
 a233:=aou
 z233:=aov
 v233:=aow
 g15:=by kernel_rfl
 g16:=by kernel_rfl
 g17:=by kernel_rfl
 g18:=by kernel_rfl
 g19:=by kernel_rfl
 t80:=Tryz.underlying161
 a80:=Tryz.isAgg161
 z80:=Tryz.sizeOf161
 v80:=Tryz.zeroValue161
 i0:=by kernel_rfl
 i2:=by kernel_rfl
 i3:=by kernel_rfl
 i4:=by kernel_rfl
 i5:=by kernel_rfl
 i9:=by kernel_rfl
 i20:=by kernel_rfl
 i21:=by kernel_rfl
 i37:=by kernel_rfl
 i46:=by kernel_rfl
 i51:=by kernel_rfl
 i53:=by kernel_rfl
 i75:=by kernel_rfl
 i76:=by kernel_rfl
 i80:=by kernel_rfl
 i85:=by kernel_rfl
 i127:=by kernel_rfl
 i143:=by kernel_rfl
 i145:=by kernel_rfl
 i167:=by kernel_rfl
 i168:=by kernel_rfl
 i171:=by kernel_rfl
 i173:=by kernel_rfl
 i175:=by kernel_rfl
 i210:=by kernel_rfl
 i212:=by kernel_rfl
 i232:=by kernel_rfl
 i233:=by kernel_rfl
 m15:=by kernel_rfl
 m16:=by kernel_rfl
 m17:=by kernel_rfl
 m18:=by kernel_rfl
 m19:=by kernel_rfl
 c0:=by kernel_rfl
 c2:=by kernel_rfl
 c3:=by kernel_rfl
 c4:=by kernel_rfl
 c5:=by kernel_rfl
 c9:=by kernel_rfl
 c20:=by kernel_rfl
 c21:=by kernel_rfl
 c37:=by kernel_rfl
 c46:=by kernel_rfl
 c51:=by kernel_rfl
 c53:=by kernel_rfl
 c75:=by kernel_rfl
 c76:=by kernel_rfl
 c80:=by kernel_rfl
 c85:=by kernel_rfl
 c127:=by kernel_rfl
 c143:=by kernel_rfl
 c145:=by kernel_rfl
 c167:=by kernel_rfl
 c168:=by kernel_rfl
 c171:=by kernel_rfl
 c173:=by kernel_rfl
 c175:=by kernel_rfl
 c210:=by kernel_rfl
 c212:=by kernel_rfl
 c213:=by kernel_rfl
 c232:=by kernel_rfl
 c233:=by kernel_rfl}
open Go.RowKit in
theorem Tryz.strconv_Atoi_err(s:ByteArray)(hl:s.size<=18)(h:Lib.atoi s.data.toList=none)(ev:Value)(w:World)(hv:w.cell? ⟨8,0,none⟩=some ev)(ak:ev= .nilIface\/∃te pe,ev= .iface te pe):
  Calls Ψ 269 #[.string s] w fun e w'=>∃N,e= .returned (.tuple #[.int .i64 0,.iface 350 (.pointer (some ⟨N,0,none⟩))])/\w.heap.size<=N/\w'.heap[N]?=some (.cells #[.string ⟨#[65,116,111,105]⟩,.string s,ev] 358 (0,0))/\Below w.heap.size w w':=Any.strconv_Atoi_err Tryz.afv s hl h ev w hv ak
end Go.Proofs
