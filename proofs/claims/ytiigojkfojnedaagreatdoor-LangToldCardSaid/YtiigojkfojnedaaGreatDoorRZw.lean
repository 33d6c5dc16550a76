import Derived.Test.YtiigojkfojnedaaGreatDoorRLa
import Derived.Test.YtiigojkfojnedaaGreatDoorProg
import Derived.Shelf.SlMaps.Clone
import Derived.Shelf.Strings.OnBuilder
import Derived.Shelf.Small.Strs
import Derived.Shelf.Strconv.Atoi
import Derived.Shelf.Strconv.Itoa3
import Derived.Shelf.Strconv.AtoiErr
set_option linter.all false
set_option maxRecDepth 100000
set_option maxHeartbeats 8000000
open Go.World renaming setCell->alu,shape?->alz
open Array renaming getElem?_modify->Jl
open Go.Proofs.Tryz renaming prog->Φ,func170->alv,ntmps170->alw,underlying148->JC,underlying290->alx,func221->aly,func106->alp,underlying51->xN,underlying9->zY,underlying241->JE,func111->alr,ntmps111->alA,underlying261->alB,underlying0->alC,isAgg0->alD,sizeOf0->alE,zeroValue0->alF,underlying3->EU,isAgg3->alG,sizeOf3->alH,zeroValue3->EW,underlying4->EV,isAgg4->alI,sizeOf4->alJ,zeroValue4->alK,isAgg9->alL,sizeOf9->alM,zeroValue9->EY,underlying20->alN,isAgg20->alO,sizeOf20->alP,zeroValue20->alQ,isAgg51->alR,sizeOf51->alS,zeroValue51->alT,underlying153->JD,isAgg153->alU,sizeOf153->alV,zeroValue153->alW,underlying154->alX,isAgg154->alY,sizeOf154->alZ,zeroValue154->al0,isAgg241->al1,sizeOf241->al2,zeroValue241->al3,underlying5->B_,isAgg5->al4,sizeOf5->al5,zeroValue5->EX,func287->al6,func109->alk,func269->als,func314->al7,func173->al8,func292->al9,func293->al_,func222->al',func303->ama,func304->amb,func305->amc,func306->amd,func307->ame,func261->amf,func262->amg,func263->amh,func264->ami,func312->amj,func313->amk,func286->aml,func288->amm,func289->amn,func290->amo,func316->amp,func317->amq,func301->amr,func302->ams,underlying2->amt,isAgg2->amu,sizeOf2->amv,zeroValue2->amw,underlying21->amx,isAgg21->amy,sizeOf21->amz,zeroValue21->amA,underlying226->amB,isAgg226->amC,sizeOf226->amD,zeroValue226->amE,underlying171->amF,isAgg171->amG,sizeOf171->amH,zeroValue171->amI,underlying284->amJ,isAgg284->amK,sizeOf284->amL,zeroValue284->amM,underlying348->amN,isAgg348->amO,sizeOf348->amP,zeroValue348->amQ,underlying361->amR,isAgg361->amS,sizeOf361->amT,zeroValue361->amU,underlying363->amV,isAgg363->amW,sizeOf363->amX,zeroValue363->amY,underlying347->amZ,isAgg347->am0,sizeOf347->am1,zeroValue347->am2,underlying350->am3,isAgg350->am4,sizeOf350->am5,zeroValue350->am6,underlying314->am7,isAgg314->am8,sizeOf314->am9,zeroValue314->am_,underlying317->am',isAgg317->ana,sizeOf317->anb,zeroValue317->anc,underlying355->ane,isAgg355->anf,sizeOf355->ang,zeroValue355->anh,underlying358->ani,isAgg358->anj,sizeOf358->ank,zeroValue358->anl,underlying338->anm,isAgg338->ann,sizeOf338->ano,zeroValue338->anp,underlying339->anq,isAgg339->anr,sizeOf339->ans,underlying353->ant,isAgg353->anu,sizeOf353->anv,zeroValue353->anw,underlying354->anx,isAgg354->anz,sizeOf354->anA,zeroValue354->anB
open Option renaming map_eq_some_iff->bA
namespace Go.Δ.Tz
open Go.Δ Go.Proofs Go.RowKit
theorem OV(w:World)(b i k:Nat)(v:Value)(h:k≠b):(w.setCell ⟨b,i,none⟩ v).heap[k]?=w.heap[k]?:=by simp only[alu,Jl];rw[if_neg (fun e=>h e.symm)]
theorem WI{w w':World}{e:TypeId}{s:List Nat}{v:Value}{r:Option Nat}(h:pn w e s v r)(hk:∀k,r=some k->w'.heap[k]?=w.heap[k]?):pn w' e s v r:=by
 rcases h with h|⟨g,cap,cur,rfl,h2,h3,h4,h5⟩
 ·exact .inl h
 ·exact .inr ⟨g,cap,cur,rfl,h2,h3,(hk g rfl).trans h4,h5⟩
theorem ajs{P:Program}{w:World}{ops:Array Oper}{rest:List Oper}{o:Oper}{a:Act}{Q:Exit->Act->World->Prop}(oK:o.guard=none)(sl x:Operand)(t u:TypeId)
  (ho:o.op= .call {callee:= .builtin .append,args:= #[sl,x],argTypes:= #[t,u]}) {e:TypeId} {i:TypeInfo} (ht:P.underlying t=some (.slice e)) (hu:P.underlying u=some .string) (hi:P.info? e=some i)
  (hz:i.zero=some (.int .u8 0)) (DE:i.size=1) (Hm:i.bytes=1) {v:Value} {r:Option Nat} {q:List Nat} (hs:a.eval sl=v) (hv:pn w e q v r) (s:ByteArray) (hx:a.eval x= .string s)
  (hlen:q.length+s.size<=140737488355328)
  (h:∀(v':Value) (w':World) (r':Option Nat),pn w' e (q++s.data.toList.map UInt8.toNat) v' r'->(r'=r\/r'=some w.heap.size)->w.heap.size<=w'.heap.size->w'.os=w.os->w'.tape=w.tape->w'.output=w.output→
   (∀k,k<w.heap.size->r≠some k->w'.heap[k]?=w.heap[k]?)->wpList P ops Q rest (a.put o.dst v') w'):wpList P ops Q (o::rest) a w:=by
 refine wpList_plain oK fun K hK=>?_;obtain⟨v',w',r',hr,h1,h2,h3,h4,h5,h6,h7⟩:=Yn (P:=P) (ty:=o.type) ht hu hi hz DE Hm hv s hlen;unfold Oper.wp execOp;simp only[ho,resolve,invoke,builtin,Sem.run_bind,Sem.run_pure,Result.andThen_ok,List.map_toArray,List.map_cons,List.map_nil,hs,hx,hr];exact hK _ _ (h v' w' r' h1 h2 h3 h4 h5 h6 h7)
def Checked(w w':World)(b:Nat)(v:Value):Prop:=
 w'.heap[b]?=some (.cells #[.pointer (some ⟨b,0,none⟩),v] 150 (0,0))/\w'.heap.size=w.heap.size/\w'.os=w.os/\w'.tape=w.tape/\w'.output=w.output/\∀k,k≠b->w'.heap[k]?=w.heap[k]?
theorem Zz(b:Nat)(w:World)(h0:w.cell? ⟨b,0,none⟩=some (.pointer (some ⟨b,0,none⟩))):
  Calls Φ 170 #[.pointer (some ⟨b,0,none⟩)] w fun e w'=>e= .returned (.tuple #[])/\w'=w:=by
 obtain⟨j,hj,_⟩:=bA.1 (show(Φ.info? 150).map (·.size)=some 2 by kernel_rfl)
 go_enter alv,alw
 go_wp2
 rw[Lib.run_neq_ptr_same w _ JC hj]
 go_wp2
 go_end0
 exact⟨rfl,rfl⟩
theorem Zy(b:Nat)(w:World)(h0:w.cell? ⟨b,0,none⟩=some (.pointer none))(dX:w.shape? b=some (150,2))(hfz:w.frozen? ⟨b,0,none⟩=false):
  Calls Φ 170 #[.pointer (some ⟨b,0,none⟩)] w fun e w'=>e= .returned (.tuple #[])/\w'=w.setCell ⟨b,0,none⟩ (.pointer (some ⟨b,0,none⟩)):=by
 obtain⟨j,hj,vg⟩:=bA.1 (show(Φ.info? 150).map (·.size)=some 2 by kernel_rfl)
 go_enter alv,alw
 go_wp2
 rw[Lib.run_to_unsafe w ⟨b,0,none⟩ JC alx hj (by rw[vg];decide) dX (Nat.zero_lt_succ 1)];simp only[Result.andThen];rw[Oper.upon_value]
 go_wp2
 rw[run_callFunc_extern aly (by kernel_rfl) (by kernel_rfl) (by kernel_rfl) (e:=Extern.AbiNoEscape.same) (by kernel_rfl)];rw[Lib.run_noEscape];simp only[Result.andThen];rw[Oper.upon_value]
 go_wp2
 rw[Lib.run_from_unsafe w ⟨b,0,none⟩ alx JC hj dX (by kernel_rfl)];simp only[Result.andThen];rw[Oper.upon_value]
 go_wp2
 go_end0
 exact⟨rfl,rfl⟩
theorem Zx(b:Nat)(p v:Value)(w:World)(hb:w.heap[b]?=some (.cells #[p,v] 150 (0,0)))(hp:p= .pointer none\/p= .pointer (some ⟨b,0,none⟩)):
  Calls Φ 170 #[.pointer (some ⟨b,0,none⟩)] w fun e w'=>e= .returned (.tuple #[])/\Checked w w' b v:=by
 have c0:w.cell? ⟨b,0,none⟩=some p:=by rw[Lib.cell_of_heap hb];rfl
 rcases hp with rfl|rfl
 ·refine(Zy b w c0 (by simp[alz,hb]) (by simp[World.frozen?,hb])).mono fun e w' ⟨he,hw⟩=>?_;subst hw;refine⟨he,?_,by simp[alu],rfl,rfl,rfl,fun k hk=>OV w b 0 k _ hk⟩;simp[alu,Jl,hb]
 ·refine(Zz b w c0).mono fun e w' ⟨he,hw⟩=>?_;subst hw;exact⟨he,hb,rfl,rfl,rfl,rfl,fun k hk=>rfl⟩
theorem writeString(b:Nat)(s:ByteArray)(p v:Value)(r:Option Nat)(q:List Nat)(w:World)(hb:w.heap[b]?=some (.cells #[p,v] 150 (0,0)))(hp:p= .pointer none\/p= .pointer (some ⟨b,0,none⟩))
  (hH:pn w 5 q v r) (wV:r≠some b) (hlen:q.length+s.size<=140737488355328):
  Calls Φ 106 #[.pointer (some ⟨b,0,none⟩),.string s] w fun en w'=>en= .returned (.tuple #[.int .i64 s.size,.nilIface])/\Pj w w' b r/\∃p' v' r',w'.heap[b]?=some (.cells #[p',v'] 150 (0,0))∧
   (p'= .pointer none\/p'= .pointer (some ⟨b,0,none⟩))/\pn w' 5 (q++s.data.toList.map UInt8.toNat) v' r'/\(r'=r\/∃k,r'=some k/\w.heap.size<=k):=by
 obtain⟨i0,hi,hz0,fX,hU⟩:=info_parts (show(Φ.info? 5).map (fun i=>(i.zero,i.size,i.bytes))=some (some (.int .u8 0),1,1) by kernel_rfl)
 go_enter alp,Tryz.ntmps106
 go_wp2_with (go_at_call 170;refine(Zx b p v _ hb hp).mono ?_)
 rintro e w1 ⟨rfl,hc⟩
 have dr:=hc.1;have c0:w1.cell? ⟨b,0,none⟩=some (.pointer (some ⟨b,0,none⟩)):=by rw[Lib.cell_of_heap dr];rfl
 have c1:w1.cell? ⟨b,1,none⟩=some v:=by rw[Lib.cell_of_heap dr];rfl
 have qt:pn w1 5 q v r:=WI hH fun k hk=>hc.2.2.2.2.2 k fun e=>wV (by rw[hk,e])
 go_wp2_with (at_builtin;refine ajs rfl _ _ 51 9 rfl xN zY hi hz0 fX hU rfl qt s rfl hlen ?_)
 intro v' w2 r' sU jv akd abQ ab8 abS gy;have ψ:b<w1.heap.size:=(Array.getElem?_eq_some_iff.1 dr).1;have dA:w2.heap[b]?=some (.cells #[.pointer (some ⟨b,0,none⟩),v] 150 (0,0)):=(gy b ψ wV).trans dr;have d0:w2.cell? ⟨b,0,none⟩=some (.pointer (some ⟨b,0,none⟩)):=by rw[Lib.cell_of_heap dA];rfl
 have d1:w2.cell? ⟨b,1,none⟩=some v:=by rw[Lib.cell_of_heap dA];rfl
 have f1:w2.frozen? ⟨b,1,none⟩=false:=Lib.frozen_of_heap dA 1;have jW:∃ao n' cap,v'= .slice ao n' cap:=by
  rcases sU with⟨hv,_⟩|⟨g,cap,cur,_,hv,_⟩
  ·exact⟨_,_,_,hv⟩
  ·exact⟨_,_,_,hv⟩
 obtain⟨ao,n',cap,rfl⟩:=jW;have abW:r'≠some b:=by
  rcases jv with h|h
  ·rw[h];exact wV
  ·rw[h];intro e;cases e;omega
 go_wp2
 go_ret2
 obtain⟨-,UC,abP,ab7,abR,pF⟩:=hc;refine⟨rfl,⟨by simp[alu];omega,abQ.trans abP,ab8.trans ab7,abS.trans abR,fun k hk wN Di=>?_⟩,.pointer (some ⟨b,0,none⟩),.slice ao n' cap,r',?_,.inr rfl,?_,?_⟩
 ·rw[OV _ _ _ _ _ wN,gy k (by omega) Di,pF k wN]
 ·simp[alu,Jl,dA]
 ·exact WI sU fun k hk=>OV _ _ _ _ _ fun e=>abW (by rw[hk,e])
 ·rcases jv with h|h
  ·exact .inl h
  ·exact .inr ⟨_,h,by omega⟩
theorem Ye(b g cap:Nat)(p:Value)(cur:Array Value)(l:List UInt8)(w:World)(h0:l≠[])(hb:w.heap[b]?=some (.cells #[p,.slice (some ⟨g,0,none⟩) l.length cap] 150 (0,0)))
  (hg:w.heap[g]?=some (.cells cur 5 (0,0))) (iZ:cur.size=cap) (kW:l.length<=cap) (C6:cap<=maxLen) (jr:∀(j:Nat) (x:UInt8),l[j]?=some x->cur[j]?=some (Value.int .u8 x.toNat)):
  Calls Φ 111 #[.pointer (some ⟨b,0,none⟩)] w fun e w'=>e= .returned (.string ⟨l.toArray⟩)/\w'=w.drew.freeze ⟨g,0,none⟩ l.length:=by
 have wQ:l.length≠0:=by simpa using h0
 have jK:maxLen=9223372036854775807:=rfl;have oK:w.drew.heap[g]?=some (.cells cur 5 (0,0)):=hg;have c1:w.drew.cell? ⟨b,1,none⟩=some (.slice (some ⟨g,0,none⟩) l.length cap):=by have:w.drew.heap[b]?=some (.cells #[p,.slice (some ⟨g,0,none⟩) l.length cap] 150 (0,0)):=hb;rw[Lib.cell_of_heap this];rfl
 have hSD:(Builtin.unsafeSliceData_ #[51] 241 #[.slice (some ⟨g,0,none⟩) l.length cap]).run Φ w.drew= .ok (.pointer (some ⟨g,0,none⟩)) w.drew:=
  Lib.run_unsafeSliceData_row _ _ _ _ _ _ (by omega)
 have hUS:(Builtin.unsafeString_ #[241,3] 9 #[.pointer (some ⟨g,0,none⟩),.int .i64 l.length]).run Φ w.drew= .ok (.string ⟨l.toArray⟩) (w.drew.freeze ⟨g,0,none⟩ l.length):=by
  refine Lib.run_unsafeString_row w.drew 241 3 9 5 JE (by kernel_rfl) g cur.size (by simp[alz,oK]) l h0 (by omega) (by omega) ?_;intro j x hx;have hz:((⟨g,0,none⟩:Addr).add j)=⟨g,j,none⟩:=by rw[Addr.add_mid];simp
  rw[hz,Lib.cell_of_heap oK];exact jr j x hx
 clear hb hg oK jr
 go_enter alr,alA
 go_wp2
 go_region
 all_goals(go_wp2;go_ret;exact⟨rfl,rfl⟩)
theorem Yd(b:Nat)(p:Value)(w:World)(hb:w.heap[b]?=some (.cells #[p,.slice none 0 0] 150 (0,0))):
  Calls Φ 111 #[.pointer (some ⟨b,0,none⟩)] w fun e w'=>e= .returned (.string ⟨#[]⟩)/\w'=w.drew:=by
 have hSD:(Builtin.unsafeSliceData_ #[51] 241 #[.slice none 0 0]).run Φ w.drew= .ok (.pointer none) w.drew:=Lib.run_unsafeSliceData_nil w.drew _ _ _ _;have hUS:(Builtin.unsafeString_ #[241,3] 9 #[.pointer none,.int .i64 0]).run Φ w.drew= .ok (.string .empty) w.drew:=Lib.run_unsafeString_none w.drew _ _ _ none;have c1:w.drew.cell? ⟨b,1,none⟩=some (.slice none 0 0):=by have:w.drew.heap[b]?=some (.cells #[p,.slice none 0 0] 150 (0,0)):=hb;rw[Lib.cell_of_heap this];rfl
 clear hb
 go_enter alr,alA
 go_wp2
 go_region
 all_goals(go_wp2;go_ret;exact⟨rfl,rfl⟩)
theorem afa(b:Nat)(es:Array MapEntry)(clock:Nat)(w:World)(hb:w.heap[b]?=some (.map es clock)):
  Calls Φ 277 #[.map (some b)] w fun e w'=>e= .returned (.map (some w.heap.size))/\w'=w.alloc (.map es clock):=by
 have hq:=fun w=>run_eql_map_nil_sl (P:=Φ) w 261 _ _ (some b) alB
 go_enter Tryz.func277,Tryz.ntmps277
 go_wp2
 rw[run_callFunc_extern Tryz.func299 (by kernel_rfl) (by kernel_rfl) (by kernel_rfl) (e:=Extern.MapsClone.clone) (by kernel_rfl),run_maps_clone_sl w 261 hb];simp only[Result.andThen];rw[Oper.upon_value]
 go_wp2
 rw[run_typeAssert_map_sl _ 261 20 _ _ _ alB];simp only[Result.andThen];rw[Oper.upon_value]
 go_wp2
 go_ret
 exact⟨rfl,rfl⟩
end Go.Δ.Tz
namespace Go.Proofs
open Go.Shelf
theorem bX{A:Type}{a b:A}{o:Option A}(h:o=some a)(e:a=b):o=some b:=h.trans (congrArg some e)
def Tryz.Vn:Go.Shelf.Ren:=⟨fun|156=>174|165=>161|166=>106|169=>111|240=>170|241=>216|276=>221|277=>256|n=>n,fun|31=>42|9=>9|3=>3|4=>4|0=>0|20=>20|72=>150|76=>154|70=>148|37=>51|75=>153|127=>241|164=>290|5=>5|80=>161|n=>n,fun|n=>n⟩
theorem Tryz.Vm:Go.Proofs.Lays.n156 Tryz.prog Tryz.Vn:= {
 mixed:=by kernel_rfl
 f156:=bX Tryz.func174 (by kernel_rfl)
 f165:=bX Tryz.func161 (by kernel_rfl)
 f166:=bX alp (by kernel_rfl)
 f169:=bX alr (by kernel_rfl)
 f240:=bX alv (by kernel_rfl)
 f241:=bX Tryz.func216 (by kernel_rfl)
 f276:=bX aly (by kernel_rfl)
 f277:=bX Tryz.func256 (by kernel_rfl)
 t0:=alC
 a0:=alD
 z0:=alE
 v0:=alF
 t3:=EU
 a3:=alG
 z3:=alH
 v3:=EW
 t4:=EV
 a4:=alI
 z4:=alJ
 v4:=alK
 t9:=zY
 a9:=alL
 z9:=alM
 v9:=EY
 t20:=alN
 a20:=alO
 z20:=alP
 v20:=alQ
 t31:=Tryz.underlying42
 a31:=Tryz.isAgg42
 z31:=Tryz.sizeOf42
 v31:=Tryz.zeroValue42
 t37:=xN
 a37:=alR
 z37:=alS
 v37:=alT
 t70:=JC
 a70:=Tryz.isAgg148
 z70:=Tryz.sizeOf148
 v70:=Tryz.zeroValue148
 t72:=Tryz.underlying150
 a72:=Tryz.isAgg150
 z72:=Tryz.sizeOf150
 v72:=Tryz.zeroValue150
 t75:=JD
 a75:=alU
 z75:=alV
 v75:=alW
 t76:=alX
 a76:=alY
 z76:=alZ
 v76:=al0
 t127:=JE
 a127:=al1
 z127:=al2
 v127:=al3
 t164:=alx
 a164:=Tryz.isAgg290
 z164:=Tryz.sizeOf290
 v164:=Tryz.zeroValue290}
theorem Tryz.Pg:Builder.Extra Tryz.prog Tryz.Vn:= {
 sizeBuilder:=by kernel_rfl
 liesBuilder:=by kernel_rfl
 t5:=B_
 a5:=al4
 z5:=al5
 v5:=EX
 infoByte:=by kernel_rfl
 cellsByte:=by kernel_rfl
 sizeByte:=by kernel_rfl
 neB5:=by decide}
open Go.RowKit in
theorem Tryz.strings_Join_none(a:Option Addr)(c:Nat)(sep:ByteArray)(w:World):
  Calls Φ 174 #[.slice a 0 c,.string sep] w fun e w'=>e= .returned (.string ⟨#[]⟩)/\w'=w:=Any.strings_Join_none Tryz.Vm Tryz.Pg a c sep w
open Go.RowKit in
theorem Tryz.strings_Join(bk o c:Nat)(xs:List ByteArray)(sep:ByteArray)(w:World)(C5:∀(j:Nat) x,xs[j]?=some x->w.cell? ⟨bk,o+j,none⟩=some (.string x))(LX:bk<w.heap.size)(hN:xs.length<=140737488355328)(dN:xs.length<=c)(hlen:(Lib.join (xs.map (·.data.toList)) sep.data.toList).length<=140737488355328):
  Calls Φ 174 #[.slice (some ⟨bk,o,none⟩) xs.length c,.string sep] w fun e w'=>e= .returned (.string ⟨(Lib.join (xs.map (·.data.toList)) sep.data.toList).toArray⟩)/\Below w.heap.size w w':=Any.strings_Join Tryz.Vm Tryz.Pg bk o c xs sep w C5 LX hN dN hlen
def Tryz.aeI:Go.Shelf.Ren:=⟨fun|137=>238|217=>251|266=>284|n=>n,fun|9=>9|5=>5|3=>3|n=>n,fun|n=>n⟩
theorem Tryz.aeH:Go.Proofs.Lays.n137 Tryz.prog Tryz.aeI:= {
 mixed:=by kernel_rfl
 f137:=bX Tryz.func238 (by kernel_rfl)
 f217:=bX Tryz.func251 (by kernel_rfl)
 f266:=bX Tryz.func284 (by kernel_rfl)
 t3:=EU
 a3:=alG
 z3:=alH
 v3:=EW
 t5:=B_
 a5:=al4
 z5:=al5
 v5:=EX
 t9:=zY
 a9:=alL
 z9:=alM
 v9:=EY}
open Go.RowKit in
theorem Tryz.strings_IndexByte(s:ByteArray)(c:Int)(w:World):
  Calls Φ 238 #[.string s,.int .u8 c] w fun e w'=>e= .returned (.int .i64 (Lib.indexByte s.data.toList c.toNat.toUInt8))/\w'=w:=Any.strings_IndexByte Tryz.aeH s c w
def Tryz.aeM:Go.Shelf.Ren:=⟨fun|172=>269|244=>292|245=>293|247=>303|279=>304|280=>305|281=>306|282=>307|287=>312|316=>313|171=>109|205=>314|321=>316|322=>317|243=>173|246=>222|283=>261|284=>262|285=>263|286=>264|129=>287|317=>286|318=>288|319=>289|320=>290|337=>301|338=>302|n=>n,fun|9=>9|3=>3|75=>153|76=>154|4=>4|5=>5|167=>347|37=>51|0=>0|85=>348|2=>2|168=>350|53=>284|175=>355|46=>226|210=>358|127=>241|145=>363|143=>361|21=>21|171=>314|173=>317|212=>338|51=>171|20=>20|213=>339|232=>353|233=>354|80=>161|n=>n,fun|15=>8|16=>9|17=>5|18=>6|19=>7|n=>n⟩
theorem Tryz.aeL:Go.Proofs.Lays.n172 Tryz.prog Tryz.aeM:= {
 mixed:=by kernel_rfl
 f129:=bX al6 (by kernel_rfl)
 f171:=bX alk (by kernel_rfl)
 f172:=bX als (by kernel_rfl)
 f205:=bX al7 (by kernel_rfl)
 f243:=bX al8 (by kernel_rfl)
 f244:=bX al9 (by kernel_rfl)
 f245:=bX al_ (by kernel_rfl)
 f246:=bX al' (by kernel_rfl)
 f247:=bX ama (by kernel_rfl)
 f279:=bX amb (by kernel_rfl)
 f280:=bX amc (by kernel_rfl)
 f281:=bX amd (by kernel_rfl)
 f282:=bX ame (by kernel_rfl)
 f283:=bX amf (by kernel_rfl)
 f284:=bX amg (by kernel_rfl)
 f285:=bX amh (by kernel_rfl)
 f286:=bX ami (by kernel_rfl)
 f287:=bX amj (by kernel_rfl)
 f316:=bX amk (by kernel_rfl)
 f317:=bX aml (by kernel_rfl)
 f318:=bX amm (by kernel_rfl)
 f319:=bX amn (by kernel_rfl)
 f320:=bX amo (by kernel_rfl)
 f321:=bX amp (by kernel_rfl)
 f322:=bX amq (by kernel_rfl)
 f337:=bX amr (by kernel_rfl)
 f338:=bX ams (by kernel_rfl)
 t0:=alC
 a0:=alD
 z0:=alE
 v0:=alF
 t2:=amt
 a2:=amu
 z2:=amv
 v2:=amw
 t3:=EU
 a3:=alG
 z3:=alH
 v3:=EW
 t4:=EV
 a4:=alI
 z4:=alJ
 v4:=alK
 t5:=B_
 a5:=al4
 z5:=al5
 v5:=EX
 t9:=zY
 a9:=alL
 z9:=alM
 v9:=EY
 t20:=alN
 a20:=alO
 z20:=alP
 v20:=alQ
 t21:=amx
 a21:=amy
 z21:=amz
 v21:=amA
 t37:=xN
 a37:=alR
 z37:=alS
 v37:=alT
 t46:=amB
 a46:=amC
 z46:=amD
 v46:=amE
 t51:=amF
 a51:=amG
 z51:=amH
 v51:=amI
 t53:=amJ
 a53:=amK
 z53:=amL
 v53:=amM
 t75:=JD
 a75:=alU
 z75:=alV
 v75:=alW
 t76:=alX
 a76:=alY
 z76:=alZ
 v76:=al0
 t85:=amN
 a85:=amO
 z85:=amP
 v85:=amQ
 t127:=JE
 a127:=al1
 z127:=al2
 v127:=al3
 t143:=amR
 a143:=amS
 z143:=amT
 v143:=amU
 t145:=amV
 a145:=amW
 z145:=amX
 v145:=amY
 t167:=amZ
 a167:=am0
 z167:=am1
 v167:=am2
 t168:=am3
 a168:=am4
 z168:=am5
 v168:=am6
 t171:=am7
 a171:=am8
 z171:=am9
 v171:=am_
 t173:=am'
 a173:=ana
 z173:=anb
 v173:=anc
 t175:=ane
 a175:=anf
 z175:=ang
 v175:=anh
 t210:=ani
 a210:=anj
 z210:=ank
 v210:=anl
 t212:=anm
 a212:=ann
 z212:=ano
 v212:=anp
 t213:=anq
 a213:=anr
 z213:=ans
 t232:=ant
 a232:=anu
 z232:=anv
 v232:=anw
 t233:=anx
 a233:=anz
 z233:=anA
 v233:=anB
 g15:=by kernel_rfl
 g16:=by kernel_rfl
 g17:=by kernel_rfl
 g18:=by kernel_rfl
 g19:=by kernel_rfl}
open Go.RowKit in
theorem Tryz.strconv_Atoi(s:ByteArray)(n:Int)(hl:s.size<=18)(h:Lib.atoi s.data.toList=some n)(w:World):
  Calls Φ 269 #[.string s] w fun e w'=>e= .returned (.tuple #[.int .i64 n,.nilIface])/\∃t,w'=Lib.bytesWorld w 5 t:=Any.strconv_Atoi Tryz.aeL s n hl h w
def Tryz.aeK:Go.Shelf.Ren:=⟨fun|171=>109|243=>173|246=>222|283=>261|284=>262|285=>263|286=>264|129=>287|317=>286|318=>288|319=>289|320=>290|337=>301|338=>302|n=>n,fun|3=>3|9=>9|2=>2|4=>4|171=>314|0=>0|53=>284|37=>51|5=>5|173=>317|212=>338|51=>171|20=>20|213=>339|46=>226|232=>353|233=>354|n=>n,fun|17=>5|18=>6|19=>7|n=>n⟩
theorem Tryz.aeJ:Go.Proofs.Lays.n171 Tryz.prog Tryz.aeK:= {
 mixed:=by kernel_rfl
 f129:=bX al6 (by kernel_rfl)
 f171:=bX alk (by kernel_rfl)
 f243:=bX al8 (by kernel_rfl)
 f246:=bX al' (by kernel_rfl)
 f283:=bX amf (by kernel_rfl)
 f284:=bX amg (by kernel_rfl)
 f285:=bX amh (by kernel_rfl)
 f286:=bX ami (by kernel_rfl)
 f317:=bX aml (by kernel_rfl)
 f318:=bX amm (by kernel_rfl)
 f319:=bX amn (by kernel_rfl)
 f320:=bX amo (by kernel_rfl)
 f337:=bX amr (by kernel_rfl)
 f338:=bX ams (by kernel_rfl)
 t0:=alC
 a0:=alD
 z0:=alE
 v0:=alF
 t2:=amt
 a2:=amu
 z2:=amv
 v2:=amw
 t3:=EU
 a3:=alG
 z3:=alH
 v3:=EW
 t4:=EV
 a4:=alI
 z4:=alJ
 v4:=alK
 t5:=B_
 a5:=al4
 z5:=al5
 v5:=EX
 t9:=zY
 a9:=alL
 z9:=alM
 v9:=EY
 t20:=alN
 a20:=alO
 z20:=alP
 v20:=alQ
 t37:=xN
 a37:=alR
 z37:=alS
 v37:=alT
 t46:=amB
 a46:=amC
 z46:=amD
 v46:=amE
 t51:=amF
 a51:=amG
 z51:=amH
 v51:=amI
 t53:=amJ
 a53:=amK
 z53:=amL
 v53:=amM
 t171:=am7
 a171:=am8
 z171:=am9
 v171:=am_
 t173:=am'
 a173:=ana
 z173:=anb
 v173:=anc
 t212:=anm
 a212:=ann
 z212:=ano
 v212:=anp
 t213:=anq
 a213:=anr
 z213:=ans
 t232:=ant
 a232:=anu
 z232:=anv
 v232:=anw
 t233:=anx
 a233:=anz
 z233:=anA
 v233:=anB
 g17:=by kernel_rfl
 g18:=by kernel_rfl
 g19:=by kernel_rfl}
open Go.RowKit Go.Sort Go.Lib in
theorem Tryz.strconv_Itoa_small(i:Nat)(hi:i<100)(w:World):
  Calls Φ 109 #[.int .i64 i] w fun e w'=>e= .returned (.string ⟨(Lib.decDigits i).toArray⟩)/\w'=w:=Any.strconv_Itoa_small Tryz.aeJ i hi w
def Tryz.aeO:Go.Shelf.Ren:=⟨fun|172=>269|244=>292|245=>293|247=>303|279=>304|280=>305|281=>306|282=>307|287=>312|316=>313|171=>109|205=>314|321=>316|322=>317|243=>173|246=>222|283=>261|284=>262|285=>263|286=>264|129=>287|317=>286|318=>288|319=>289|320=>290|337=>301|338=>302|n=>n,fun|9=>9|3=>3|75=>153|76=>154|4=>4|5=>5|167=>347|37=>51|0=>0|85=>348|2=>2|168=>350|53=>284|175=>355|46=>226|210=>358|127=>241|145=>363|143=>361|21=>21|171=>314|173=>317|212=>338|51=>171|20=>20|213=>339|232=>353|233=>354|80=>161|n=>n,fun|15=>8|16=>9|17=>5|18=>6|19=>7|n=>n⟩
theorem Tryz.aeN:Go.Proofs.LaysC.n172 Tryz.prog Tryz.aeO:= {
 mixed:=by kernel_rfl
 f129:=bX al6 (by kernel_rfl)
 f171:=bX alk (by kernel_rfl)
 f172:=bX als (by kernel_rfl)
 f205:=bX al7 (by kernel_rfl)
 f243:=bX al8 (by kernel_rfl)
 f244:=bX al9 (by kernel_rfl)
 f245:=bX al_ (by kernel_rfl)
 f246:=bX al' (by kernel_rfl)
 f247:=bX ama (by kernel_rfl)
 f279:=bX amb (by kernel_rfl)
 f280:=bX amc (by kernel_rfl)
 f281:=bX amd (by kernel_rfl)
 f282:=bX ame (by kernel_rfl)
 f283:=bX amf (by kernel_rfl)
 f284:=bX amg (by kernel_rfl)
 f285:=bX amh (by kernel_rfl)
 f286:=bX ami (by kernel_rfl)
 f287:=bX amj (by kernel_rfl)
 f316:=bX amk (by kernel_rfl)
 f317:=bX aml (by kernel_rfl)
 f318:=bX amm (by kernel_rfl)
 f319:=bX amn (by kernel_rfl)
 f320:=bX amo (by kernel_rfl)
 f321:=bX amp (by kernel_rfl)
 f322:=bX amq (by kernel_rfl)
 f337:=bX amr (by kernel_rfl)
 f338:=bX ams (by kernel_rfl)
 t0:=alC
 a0:=alD
 z0:=alE
 v0:=alF
 t2:=amt
 a2:=amu
 z2:=amv
 v2:=amw
 t3:=EU
 a3:=alG
 z3:=alH
 v3:=EW
 t4:=EV
 a4:=alI
 z4:=alJ
 v4:=alK
 t5:=B_
 a5:=al4
 z5:=al5
 v5:=EX
 t9:=zY
 a9:=alL
 z9:=alM
 v9:=EY
 t20:=alN
 a20:=alO
 z20:=alP
 v20:=alQ
 t21:=amx
 a21:=amy
 z21:=amz
 v21:=amA
 t37:=xN
 a37:=alR
 z37:=alS
 v37:=alT
 t46:=amB
 a46:=amC
 z46:=amD
 v46:=amE
 t51:=amF
 a51:=amG
 z51:=amH
 v51:=amI
 t53:=amJ
 a53:=amK
 z53:=amL
 v53:=amM
 t75:=JD
 a75:=alU
 z75:=alV
 v75:=alW
 t76:=alX
 a76:=alY
 z76:=alZ
 v76:=al0
 t85:=amN
 a85:=amO
 z85:=amP
 v85:=amQ
 t127:=JE
 a127:=al1
 z127:=al2
 v127:=al3
 t143:=amR
 a143:=amS
 z143:=amT
 v143:=amU
 t145:=amV
 a145:=amW
 z145:=amX
 v145:=amY
 t167:=amZ
 a167:=am0
 z167:=am1
 v167:=am2
 t168:=am3
 a168:=am4
 z168:=am5
 v168:=am6
 t171:=am7
 a171:=am8
 z171:=am9
 v171:=am_
 t173:=am'
 a173:=ana
 z173:=anb
 v173:=anc
 t175:=ane
 a175:=anf
 z175:=ang
 v175:=anh
 t210:=ani
 a210:=anj
 z210:=ank
 v210:=anl
 t212:=anm
 a212:=ann
 z212:=ano
 v212:=anp
 t213:=anq
 a213:=anr
 z213:=ans
 t232:=ant
 a232:=anu
 z232:=anv
 v232:=anw
 t233:=anx
 a233:=anz
 z233:=anA
 v233:=anB
 g15:=by kernel_rfl
 g16:=by kernel_rfl
 g17:=by kernel_rfl
 g18:=by kernel_rfl
 g19:=by kernel_rfl
 t80:=Tryz.underlying161
 a80:=Tryz.isAgg161
 z80:=Tryz.sizeOf161
 v80:=Tryz.zeroValue161
 i0:=by kernel_rfl
 i2:=by kernel_rfl
 i3:=by kernel_rfl
 i4:=by kernel_rfl
 i5:=by kernel_rfl
 i9:=by kernel_rfl
 i20:=by kernel_rfl
 i21:=by kernel_rfl
 i37:=by kernel_rfl
 i46:=by kernel_rfl
 i51:=by kernel_rfl
 i53:=by kernel_rfl
 i75:=by kernel_rfl
 i76:=by kernel_rfl
 i80:=by kernel_rfl
 i85:=by kernel_rfl
 i127:=by kernel_rfl
 i143:=by kernel_rfl
 i145:=by kernel_rfl
 i167:=by kernel_rfl
 i168:=by kernel_rfl
 i171:=by kernel_rfl
 i173:=by kernel_rfl
 i175:=by kernel_rfl
 i210:=by kernel_rfl
 i212:=by kernel_rfl
 i232:=by kernel_rfl
 i233:=by kernel_rfl
 m15:=by kernel_rfl
 m16:=by kernel_rfl
 m17:=by kernel_rfl
 m18:=by kernel_rfl
 m19:=by kernel_rfl
 c0:=by kernel_rfl
 c2:=by kernel_rfl
 c3:=by kernel_rfl
 c4:=by kernel_rfl
 c5:=by kernel_rfl
 c9:=by kernel_rfl
 c20:=by kernel_rfl
 c21:=by kernel_rfl
 c37:=by kernel_rfl
 c46:=by kernel_rfl
 c51:=by kernel_rfl
 c53:=by kernel_rfl
 c75:=by kernel_rfl
 c76:=by kernel_rfl
 c80:=by kernel_rfl
 c85:=by kernel_rfl
 c127:=by kernel_rfl
 c143:=by kernel_rfl
 c145:=by kernel_rfl
 c167:=by kernel_rfl
 c168:=by kernel_rfl
 c171:=by kernel_rfl
 c173:=by kernel_rfl
 c175:=by kernel_rfl
 c210:=by kernel_rfl
 c212:=by kernel_rfl
 c213:=by kernel_rfl
 c232:=by kernel_rfl
 c233:=by kernel_rfl}
open Go.RowKit in
theorem Tryz.strconv_Atoi_err(s:ByteArray)(hl:s.size<=18)(h:Lib.atoi s.data.toList=none)(ev:Value)(w:World)(hv:w.cell? ⟨8,0,none⟩=some ev)(aw:ev= .nilIface\/∃te pe,ev= .iface te pe):
  Calls Φ 269 #[.string s] w fun e w'=>∃N,e= .returned (.tuple #[.int .i64 0,.iface 350 (.pointer (some ⟨N,0,none⟩))])/\w.heap.size<=N/\w'.heap[N]?=some (.cells #[.string ⟨#[65,116,111,105]⟩,.string s,ev] 358 (0,0))/\Below w.heap.size w w':=Any.strconv_Atoi_err Tryz.aeN s hl h ev w hv aw
end Go.Proofs
