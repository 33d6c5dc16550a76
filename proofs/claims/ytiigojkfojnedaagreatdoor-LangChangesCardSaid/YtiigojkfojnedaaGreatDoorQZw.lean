import Derived.Test.YtiigojkfojnedaaGreatDoorQLa
import Derived.Test.YtiigojkfojnedaaGreatDoorProg
import Derived.Shelf.SlMaps.Clone
import Derived.Shelf.Strings.OnBuilder
import Derived.Shelf.Small.Strs
import Derived.Shelf.Strconv.Atoi
import Derived.Shelf.Strconv.Itoa3
import Derived.Shelf.Strconv.AtoiErr
set_option linter.unusedVariables false
set_option linter.unusedSimpArgs false
set_option maxRecDepth 100000
set_option maxHeartbeats 8000000
open Go.World renaming setCell->aiq,shape?->aiv
open Array renaming getElem?_modify->Ib
open Go.Proofs.Tryz renaming prog->Ψ,func170->air,ntmps170->ais,underlying148->Ix,underlying290->ait,func221->aiu,func106->aim,underlying51->DC,underlying9->tf,underlying241->Iz,func111->aio,ntmps111->aiw,underlying261->aix,underlying0->aiy,isAgg0->aiz,sizeOf0->aiA,zeroValue0->aiB,underlying3->AY,isAgg3->aiC,sizeOf3->aiD,zeroValue3->DD,underlying4->DA,isAgg4->aiE,sizeOf4->aiF,zeroValue4->aiG,isAgg9->aiH,sizeOf9->aiI,zeroValue9->DF,underlying20->aiJ,isAgg20->aiK,sizeOf20->aiL,zeroValue20->aiM,isAgg51->aiN,sizeOf51->aiO,zeroValue51->aiP,underlying153->Iy,isAgg153->aiQ,sizeOf153->aiR,zeroValue153->aiS,underlying154->aiT,isAgg154->aiU,sizeOf154->aiV,zeroValue154->aiW,isAgg241->aiX,sizeOf241->aiY,zeroValue241->aiZ,underlying5->DB,isAgg5->ai0,sizeOf5->ai1,zeroValue5->DE,func287->ai2,func109->aii,func269->aip,func314->ai3,func173->ai4,func292->ai5,func293->ai6,func222->ai7,func303->ai8,func304->ai9,func305->ai_,func306->ai',func307->aja,func261->ajb,func262->ajc,func263->ajd,func264->aje,func312->ajf,func313->ajg,func286->ajh,func288->aji,func289->ajj,func290->ajk,func316->ajl,func317->ajm,func301->ajn,func302->ajo,underlying2->ajp,isAgg2->ajq,sizeOf2->ajr,zeroValue2->ajs,underlying21->ajt,isAgg21->aju,sizeOf21->ajv,zeroValue21->ajw,underlying226->ajx,isAgg226->ajy,sizeOf226->ajz,zeroValue226->ajA,underlying171->ajB,isAgg171->ajC,sizeOf171->ajD,zeroValue171->ajE,underlying284->ajF,isAgg284->ajG,sizeOf284->ajH,zeroValue284->ajI,underlying348->ajJ,isAgg348->ajK,sizeOf348->ajL,zeroValue348->ajM,underlying361->ajN,isAgg361->ajO,sizeOf361->ajP,zeroValue361->ajQ,underlying363->ajR,isAgg363->ajS,sizeOf363->ajT,zeroValue363->ajU,underlying347->ajV,isAgg347->ajW,sizeOf347->ajX,zeroValue347->ajY,underlying350->ajZ,isAgg350->aj0,sizeOf350->aj1,zeroValue350->aj2,underlying314->aj3,isAgg314->aj4,sizeOf314->aj5,zeroValue314->aj6,underlying317->aj7,isAgg317->aj8,sizeOf317->aj9,zeroValue317->aj_,underlying355->aj',isAgg355->aka,sizeOf355->akb,zeroValue355->akc,underlying358->akd,isAgg358->ake,sizeOf358->akf,zeroValue358->akg,underlying338->akh,isAgg338->aki,sizeOf338->akj,zeroValue338->akk,underlying339->akl,isAgg339->akm,sizeOf339->akn,underlying353->ako,isAgg353->akp,sizeOf353->akq,zeroValue353->akr,underlying354->aks,isAgg354->akt,sizeOf354->aku,zeroValue354->akv
open Option renaming map_eq_some_iff->bH
namespace Go.ah.Tz
open Go.ah Go.Proofs Go.RowKit
theorem MI(w:World)(b i k:Nat)(v:Value)(h:k≠b):(w.setCell ⟨b,i,none⟩ v).heap[k]?=w.heap[k]?:=by simp only[aiq,Ib];rw[if_neg (fun e=>h e.symm)]
theorem TG{w w':World}{e:TypeId}{s:List Nat}{v:Value}{r:Option Nat}(h:oD w e s v r)(hk:∀k,r=some k->w'.heap[k]?=w.heap[k]?):oD w' e s v r:=by
 rcases h with h|⟨g,cap,cur,rfl,h2,h3,h4,h5⟩
 ·exact .inl h
 ·exact .inr ⟨g,cap,cur,rfl,h2,h3,(hk g rfl).trans h4,h5⟩
theorem agy{P:Program}{w:World}{ops:Array Oper}{rest:List Oper}{o:Oper}{a:Act}{Q:Exit->Act->World->Prop}(oS:o.guard=none)(sl x:Operand)(t u:TypeId)
  (ho:o.op= .call {callee:= .builtin .append,args:= #[sl,x],argTypes:= #[t,u]}) {e:TypeId} {i:TypeInfo} (ht:P.underlying t=some (.slice e)) (hu:P.underlying u=some .string) (hi:P.info? e=some i)
  (hz:i.zero=some (.int .u8 0)) (Cu:i.size=1) (GC:i.bytes=1) {v:Value} {r:Option Nat} {q:List Nat} (hs:a.eval sl=v) (hv:oD w e q v r) (s:ByteArray) (hx:a.eval x= .string s)
  (hlen:q.length+s.size<=140737488355328)
  (h:∀(v':Value) (w':World) (r':Option Nat),oD w' e (q++s.data.toList.map UInt8.toNat) v' r'->(r'=r\/r'=some w.heap.size)->w.heap.size<=w'.heap.size->w'.os=w.os->w'.tape=w.tape->w'.output=w.output→
   (∀k,k<w.heap.size->r≠some k->w'.heap[k]?=w.heap[k]?)->wpList P ops Q rest (a.put o.dst v') w'):wpList P ops Q (o::rest) a w:=by
 refine wpList_plain oS fun K hK=>?_;obtain⟨v',w',r',hr,h1,h2,h3,h4,h5,h6,h7⟩:=Vs (P:=P) (ty:=o.type) ht hu hi hz Cu GC hv s hlen;unfold Oper.wp execOp;simp only[ho,resolve,invoke,builtin,Sem.run_bind,Sem.run_pure,Result.andThen_ok,List.map_toArray,List.map_cons,List.map_nil,hs,hx,hr];exact hK _ _ (h v' w' r' h1 h2 h3 h4 h5 h6 h7)
def Checked(w w':World)(b:Nat)(v:Value):Prop:=
 w'.heap[b]?=some (.cells #[.pointer (some ⟨b,0,none⟩),v] 150 (0,0))/\w'.heap.size=w.heap.size/\w'.os=w.os/\w'.tape=w.tape/\w'.output=w.output/\∀k,k≠b->w'.heap[k]?=w.heap[k]?
theorem Wl(b:Nat)(w:World)(h0:w.cell? ⟨b,0,none⟩=some (.pointer (some ⟨b,0,none⟩))):
  Calls Ψ 170 #[.pointer (some ⟨b,0,none⟩)] w fun e w'=>e= .returned (.tuple #[])/\w'=w:=by
 obtain⟨j,hj,_⟩:=bH.1 (show(Ψ.info? 150).map (·.size)=some 2 by kernel_rfl)
 go_enter air,ais
 go_wp2
 rw[Lib.run_neq_ptr_same w _ Ix hj]
 go_wp2
 go_end0
 exact⟨rfl,rfl⟩
theorem Wk(b:Nat)(w:World)(h0:w.cell? ⟨b,0,none⟩=some (.pointer none))(eu:w.shape? b=some (150,2))(Y2:w.frozen? ⟨b,0,none⟩=false):
  Calls Ψ 170 #[.pointer (some ⟨b,0,none⟩)] w fun e w'=>e= .returned (.tuple #[])/\w'=w.setCell ⟨b,0,none⟩ (.pointer (some ⟨b,0,none⟩)):=by
 obtain⟨j,hj,uH⟩:=bH.1 (show(Ψ.info? 150).map (·.size)=some 2 by kernel_rfl)
 go_enter air,ais
 go_wp2
 rw[Lib.run_to_unsafe w ⟨b,0,none⟩ Ix ait hj (by rw[uH];decide) eu (Nat.zero_lt_succ 1)];simp only[Result.andThen];rw[Oper.upon_value]
 go_wp2
 rw[run_callFunc_extern aiu (by kernel_rfl) (by kernel_rfl) (by kernel_rfl) (e:=Extern.AbiNoEscape.same) (by kernel_rfl)];rw[Lib.run_noEscape];simp only[Result.andThen];rw[Oper.upon_value]
 go_wp2
 rw[Lib.run_from_unsafe w ⟨b,0,none⟩ ait Ix hj eu (by kernel_rfl)];simp only[Result.andThen];rw[Oper.upon_value]
 go_wp2
 go_end0
 exact⟨rfl,rfl⟩
theorem Wj(b:Nat)(p v:Value)(w:World)(hb:w.heap[b]?=some (.cells #[p,v] 150 (0,0)))(hp:p= .pointer none\/p= .pointer (some ⟨b,0,none⟩)):
  Calls Ψ 170 #[.pointer (some ⟨b,0,none⟩)] w fun e w'=>e= .returned (.tuple #[])/\Checked w w' b v:=by
 have c0:w.cell? ⟨b,0,none⟩=some p:=by rw[Lib.cell_of_heap hb];rfl
 rcases hp with rfl|rfl
 ·refine(Wk b w c0 (by simp[aiv,hb]) (by simp[World.frozen?,hb])).mono fun e w' ⟨he,hw⟩=>?_;subst hw;refine⟨he,?_,by simp[aiq],rfl,rfl,rfl,fun k hk=>MI w b 0 k _ hk⟩;simp[aiq,Ib,hb]
 ·refine(Wl b w c0).mono fun e w' ⟨he,hw⟩=>?_;subst hw;exact⟨he,hb,rfl,rfl,rfl,rfl,fun k hk=>rfl⟩
theorem writeString(b:Nat)(s:ByteArray)(p v:Value)(r:Option Nat)(q:List Nat)(w:World)(hb:w.heap[b]?=some (.cells #[p,v] 150 (0,0)))(hp:p= .pointer none\/p= .pointer (some ⟨b,0,none⟩))
  (dw:oD w 5 q v r) (wk:r≠some b) (hlen:q.length+s.size<=140737488355328):
  Calls Ψ 106 #[.pointer (some ⟨b,0,none⟩),.string s] w fun en w'=>en= .returned (.tuple #[.int .i64 s.size,.nilIface])/\Na w w' b r/\∃p' v' r',w'.heap[b]?=some (.cells #[p',v'] 150 (0,0))∧
   (p'= .pointer none\/p'= .pointer (some ⟨b,0,none⟩))/\oD w' 5 (q++s.data.toList.map UInt8.toNat) v' r'/\(r'=r\/∃k,r'=some k/\w.heap.size<=k):=by
 obtain⟨i0,hi,hz0,oV,pW⟩:=info_parts (show(Ψ.info? 5).map (fun i=>(i.zero,i.size,i.bytes))=some (some (.int .u8 0),1,1) by kernel_rfl)
 go_enter aim,Tryz.ntmps106
 go_wp2_with (go_at_call 170;refine(Wj b p v _ hb hp).mono ?_)
 rintro e w1 ⟨rfl,hc⟩
 have bN:=hc.1;have c0:w1.cell? ⟨b,0,none⟩=some (.pointer (some ⟨b,0,none⟩)):=by rw[Lib.cell_of_heap bN];rfl
 have c1:w1.cell? ⟨b,1,none⟩=some v:=by rw[Lib.cell_of_heap bN];rfl
 have pQ:oD w1 5 q v r:=TG dw fun k hk=>hc.2.2.2.2.2 k fun e=>wk (by rw[hk,e])
 go_wp2_with (at_builtin;refine agy rfl _ _ 51 9 rfl DC tf hi hz0 oV pW rfl pQ s rfl hlen ?_)
 intro v' w2 r' gC gW ahk Z4 aar Z6 eF;have ρ:b<w1.heap.size:=(Array.getElem?_eq_some_iff.1 bN).1;have cQ:w2.heap[b]?=some (.cells #[.pointer (some ⟨b,0,none⟩),v] 150 (0,0)):=(eF b ρ wk).trans bN;have d0:w2.cell? ⟨b,0,none⟩=some (.pointer (some ⟨b,0,none⟩)):=by rw[Lib.cell_of_heap cQ];rfl
 have d1:w2.cell? ⟨b,1,none⟩=some v:=by rw[Lib.cell_of_heap cQ];rfl
 have f1:w2.frozen? ⟨b,1,none⟩=false:=Lib.frozen_of_heap cQ 1;have ij:∃ao n' cap,v'= .slice ao n' cap:=by
  rcases gC with⟨hv,_⟩|⟨g,cap,cur,_,hv,_⟩
  ·exact⟨_,_,_,hv⟩
  ·exact⟨_,_,_,hv⟩
 obtain⟨ao,n',cap,rfl⟩:=ij;have aae:r'≠some b:=by
  rcases gW with h|h
  ·rw[h];exact wk
  ·rw[h];intro e;cases e;omega
 go_wp2
 go_ret2
 obtain⟨-,Rm,Z3,aaq,Z5,h_⟩:=hc;refine⟨rfl,⟨by simp[aiq];omega,Z4.trans Z3,aar.trans aaq,Z6.trans Z5,fun k hk uM Zv=>?_⟩,.pointer (some ⟨b,0,none⟩),.slice ao n' cap,r',?_,.inr rfl,?_,?_⟩
 ·rw[MI _ _ _ _ _ uM,eF k (by omega) Zv,h_ k uM]
 ·simp[aiq,Ib,cQ]
 ·exact TG gC fun k hk=>MI _ _ _ _ _ fun e=>aae (by rw[hk,e])
 ·rcases gW with h|h
  ·exact .inl h
  ·exact .inr ⟨_,h,by omega⟩
theorem Vl(b g cap:Nat)(p:Value)(cur:Array Value)(l:List UInt8)(w:World)(h0:l≠[])(hb:w.heap[b]?=some (.cells #[p,.slice (some ⟨g,0,none⟩) l.length cap] 150 (0,0)))
  (hg:w.heap[g]?=some (.cells cur 5 (0,0))) (fp:cur.size=cap) (kR:l.length<=cap) (BW:cap<=maxLen) (fM:∀(j:Nat) (x:UInt8),l[j]?=some x->cur[j]?=some (Value.int .u8 x.toNat)):
  Calls Ψ 111 #[.pointer (some ⟨b,0,none⟩)] w fun e w'=>e= .returned (.string ⟨l.toArray⟩)/\w'=w.drew.freeze ⟨g,0,none⟩ l.length:=by
 have wb:l.length≠0:=by simpa using h0
 have lU:maxLen=9223372036854775807:=rfl;have oS:w.drew.heap[g]?=some (.cells cur 5 (0,0)):=hg;have c1:w.drew.cell? ⟨b,1,none⟩=some (.slice (some ⟨g,0,none⟩) l.length cap):=by have:w.drew.heap[b]?=some (.cells #[p,.slice (some ⟨g,0,none⟩) l.length cap] 150 (0,0)):=hb;rw[Lib.cell_of_heap this];rfl
 have X_:(Builtin.unsafeSliceData_ #[51] 241 #[.slice (some ⟨g,0,none⟩) l.length cap]).run Ψ w.drew= .ok (.pointer (some ⟨g,0,none⟩)) w.drew:=
  Lib.run_unsafeSliceData_row _ _ _ _ _ _ (by omega)
 have Ye:(Builtin.unsafeString_ #[241,3] 9 #[.pointer (some ⟨g,0,none⟩),.int .i64 l.length]).run Ψ w.drew= .ok (.string ⟨l.toArray⟩) (w.drew.freeze ⟨g,0,none⟩ l.length):=by
  refine Lib.run_unsafeString_row w.drew 241 3 9 5 Iz (by kernel_rfl) g cur.size (by simp[aiv,oS]) l h0 (by omega) (by omega) ?_;intro j x hx;have hz:((⟨g,0,none⟩:Addr).add j)=⟨g,j,none⟩:=by rw[Addr.add_mid];simp
  rw[hz,Lib.cell_of_heap oS];exact fM j x hx
 clear hb hg oS fM
 go_enter aio,aiw
 go_wp2
 go_region
 all_goals(go_wp2;go_ret;exact⟨rfl,rfl⟩)
theorem Vk(b:Nat)(p:Value)(w:World)(hb:w.heap[b]?=some (.cells #[p,.slice none 0 0] 150 (0,0))):
  Calls Ψ 111 #[.pointer (some ⟨b,0,none⟩)] w fun e w'=>e= .returned (.string ⟨#[]⟩)/\w'=w.drew:=by
 have X_:(Builtin.unsafeSliceData_ #[51] 241 #[.slice none 0 0]).run Ψ w.drew= .ok (.pointer none) w.drew:=Lib.run_unsafeSliceData_nil w.drew _ _ _ _;have Ye:(Builtin.unsafeString_ #[241,3] 9 #[.pointer none,.int .i64 0]).run Ψ w.drew= .ok (.string .empty) w.drew:=Lib.run_unsafeString_none w.drew _ _ _ none;have c1:w.drew.cell? ⟨b,1,none⟩=some (.slice none 0 0):=by have:w.drew.heap[b]?=some (.cells #[p,.slice none 0 0] 150 (0,0)):=hb;rw[Lib.cell_of_heap this];rfl
 clear hb
 go_enter aio,aiw
 go_wp2
 go_region
 all_goals(go_wp2;go_ret;exact⟨rfl,rfl⟩)
theorem adl(b:Nat)(es:Array MapEntry)(clock:Nat)(w:World)(hb:w.heap[b]?=some (.map es clock)):
  Calls Ψ 277 #[.map (some b)] w fun e w'=>e= .returned (.map (some w.heap.size))/\w'=w.alloc (.map es clock):=by
 have hq:=fun w=>run_eql_map_nil_sl (P:=Ψ) w 261 _ _ (some b) aix
 go_enter Tryz.func277,Tryz.ntmps277
 go_wp2
 rw[run_callFunc_extern Tryz.func299 (by kernel_rfl) (by kernel_rfl) (by kernel_rfl) (e:=Extern.MapsClone.clone) (by kernel_rfl),run_maps_clone_sl w 261 hb];simp only[Result.andThen];rw[Oper.upon_value]
 go_wp2
 rw[run_typeAssert_map_sl _ 261 20 _ _ _ aix];simp only[Result.andThen];rw[Oper.upon_value]
 go_wp2
 go_ret
 exact⟨rfl,rfl⟩
end Go.ah.Tz
namespace Go.Proofs
open Go.Shelf
def Tryz.So:Go.Shelf.Ren:=⟨fun|156=>174|165=>161|166=>106|169=>111|240=>170|241=>216|276=>221|277=>256|n=>n,fun|31=>42|9=>9|3=>3|4=>4|0=>0|20=>20|72=>150|76=>154|70=>148|37=>51|75=>153|127=>241|164=>290|5=>5|80=>161|n=>n,fun|n=>n⟩
theorem Tryz.Sn:Go.Proofs.Lays.n156 Tryz.prog Tryz.So:= {
 mixed:=by kernel_rfl
 f156:=Tryz.func174.trans (congrArg some (by kernel_rfl))
 f165:=Tryz.func161.trans (congrArg some (by kernel_rfl))
 f166:=aim.trans (congrArg some (by kernel_rfl))
 f169:=aio.trans (congrArg some (by kernel_rfl))
 f240:=air.trans (congrArg some (by kernel_rfl))
 f241:=Tryz.func216.trans (congrArg some (by kernel_rfl))
 f276:=aiu.trans (congrArg some (by kernel_rfl))
 f277:=Tryz.func256.trans (congrArg some (by kernel_rfl))
 t0:=aiy
 a0:=aiz
 z0:=aiA
 v0:=aiB
 t3:=AY
 a3:=aiC
 z3:=aiD
 v3:=DD
 t4:=DA
 a4:=aiE
 z4:=aiF
 v4:=aiG
 t9:=tf
 a9:=aiH
 z9:=aiI
 v9:=DF
 t20:=aiJ
 a20:=aiK
 z20:=aiL
 v20:=aiM
 t31:=Tryz.underlying42
 a31:=Tryz.isAgg42
 z31:=Tryz.sizeOf42
 v31:=Tryz.zeroValue42
 t37:=DC
 a37:=aiN
 z37:=aiO
 v37:=aiP
 t70:=Ix
 a70:=Tryz.isAgg148
 z70:=Tryz.sizeOf148
 v70:=Tryz.zeroValue148
 t72:=Tryz.underlying150
 a72:=Tryz.isAgg150
 z72:=Tryz.sizeOf150
 v72:=Tryz.zeroValue150
 t75:=Iy
 a75:=aiQ
 z75:=aiR
 v75:=aiS
 t76:=aiT
 a76:=aiU
 z76:=aiV
 v76:=aiW
 t127:=Iz
 a127:=aiX
 z127:=aiY
 v127:=aiZ
 t164:=ait
 a164:=Tryz.isAgg290
 z164:=Tryz.sizeOf290
 v164:=Tryz.zeroValue290}
theorem Tryz.M9:Builder.Extra Tryz.prog Tryz.So:= {
 sizeBuilder:=by kernel_rfl
 liesBuilder:=by kernel_rfl
 t5:=DB
 a5:=ai0
 z5:=ai1
 v5:=DE
 infoByte:=by kernel_rfl
 cellsByte:=by kernel_rfl
 sizeByte:=by kernel_rfl
 neB5:=by decide}
open Go.RowKit in
theorem Tryz.strings_Join_none(a:Option Addr)(c:Nat)(sep:ByteArray)(w:World):
  Calls Ψ 174 #[.slice a 0 c,.string sep] w fun e w'=>e= .returned (.string ⟨#[]⟩)/\w'=w:=Any.strings_Join_none Tryz.Sn Tryz.M9 a c sep w
open Go.RowKit in
theorem Tryz.strings_Join(bk o c:Nat)(xs:List ByteArray)(sep:ByteArray)(w:World)(BV:∀(j:Nat) x,xs[j]?=some x->w.cell? ⟨bk,o+j,none⟩=some (.string x))(J8:bk<w.heap.size)(hN:xs.length<=140737488355328)(db:xs.length<=c)(hlen:(Lib.join (xs.map (·.data.toList)) sep.data.toList).length<=140737488355328):
  Calls Ψ 174 #[.slice (some ⟨bk,o,none⟩) xs.length c,.string sep] w fun e w'=>e= .returned (.string ⟨(Lib.join (xs.map (·.data.toList)) sep.data.toList).toArray⟩)/\Below w.heap.size w w':=Any.strings_Join Tryz.Sn Tryz.M9 bk o c xs sep w BV J8 hN db hlen
def Tryz.ac1:Go.Shelf.Ren:=⟨fun|137=>238|217=>251|266=>284|n=>n,fun|9=>9|5=>5|3=>3|n=>n,fun|n=>n⟩
theorem Tryz.ac0:Go.Proofs.Lays.n137 Tryz.prog Tryz.ac1:= {
 mixed:=by kernel_rfl
 f137:=Tryz.func238.trans (congrArg some (by kernel_rfl))
 f217:=Tryz.func251.trans (congrArg some (by kernel_rfl))
 f266:=Tryz.func284.trans (congrArg some (by kernel_rfl))
 t3:=AY
 a3:=aiC
 z3:=aiD
 v3:=DD
 t5:=DB
 a5:=ai0
 z5:=ai1
 v5:=DE
 t9:=tf
 a9:=aiH
 z9:=aiI
 v9:=DF}
open Go.RowKit in
theorem Tryz.strings_IndexByte(s:ByteArray)(c:Int)(w:World):
  Calls Ψ 238 #[.string s,.int .u8 c] w fun e w'=>e= .returned (.int .i64 (Lib.indexByte s.data.toList c.toNat.toUInt8))/\w'=w:=Any.strings_IndexByte Tryz.ac0 s c w
def Tryz.ac5:Go.Shelf.Ren:=⟨fun|172=>269|244=>292|245=>293|247=>303|279=>304|280=>305|281=>306|282=>307|287=>312|316=>313|171=>109|205=>314|321=>316|322=>317|243=>173|246=>222|283=>261|284=>262|285=>263|286=>264|129=>287|317=>286|318=>288|319=>289|320=>290|337=>301|338=>302|n=>n,fun|9=>9|3=>3|75=>153|76=>154|4=>4|5=>5|167=>347|37=>51|0=>0|85=>348|2=>2|168=>350|53=>284|175=>355|46=>226|210=>358|127=>241|145=>363|143=>361|21=>21|171=>314|173=>317|212=>338|51=>171|20=>20|213=>339|232=>353|233=>354|80=>161|n=>n,fun|15=>8|16=>9|17=>5|18=>6|19=>7|n=>n⟩
theorem Tryz.ac4:Go.Proofs.Lays.n172 Tryz.prog Tryz.ac5:= {
 mixed:=by kernel_rfl
 f129:=ai2.trans (congrArg some (by kernel_rfl))
 f171:=aii.trans (congrArg some (by kernel_rfl))
 f172:=aip.trans (congrArg some (by kernel_rfl))
 f205:=ai3.trans (congrArg some (by kernel_rfl))
 f243:=ai4.trans (congrArg some (by kernel_rfl))
 f244:=ai5.trans (congrArg some (by kernel_rfl))
 f245:=ai6.trans (congrArg some (by kernel_rfl))
 f246:=ai7.trans (congrArg some (by kernel_rfl))
 f247:=ai8.trans (congrArg some (by kernel_rfl))
 f279:=ai9.trans (congrArg some (by kernel_rfl))
 f280:=ai_.trans (congrArg some (by kernel_rfl))
 f281:=ai'.trans (congrArg some (by kernel_rfl))
 f282:=aja.trans (congrArg some (by kernel_rfl))
 f283:=ajb.trans (congrArg some (by kernel_rfl))
 f284:=ajc.trans (congrArg some (by kernel_rfl))
 f285:=ajd.trans (congrArg some (by kernel_rfl))
 f286:=aje.trans (congrArg some (by kernel_rfl))
 f287:=ajf.trans (congrArg some (by kernel_rfl))
 f316:=ajg.trans (congrArg some (by kernel_rfl))
 f317:=ajh.trans (congrArg some (by kernel_rfl))
 f318:=aji.trans (congrArg some (by kernel_rfl))
 f319:=ajj.trans (congrArg some (by kernel_rfl))
 f320:=ajk.trans (congrArg some (by kernel_rfl))
 f321:=ajl.trans (congrArg some (by kernel_rfl))
 f322:=ajm.trans (congrArg some (by kernel_rfl))
 f337:=ajn.trans (congrArg some (by kernel_rfl))
 f338:=ajo.trans (congrArg some (by kernel_rfl))
 t0:=aiy
 a0:=aiz
 z0:=aiA
 v0:=aiB
 t2:=ajp
 a2:=ajq
 z2:=ajr
 v2:=ajs
 t3:=AY
 a3:=aiC
 z3:=aiD
 v3:=DD
 t4:=DA
 a4:=aiE
 z4:=aiF
 v4:=aiG
 t5:=DB
 a5:=ai0
 z5:=ai1
 v5:=DE
 t9:=tf
 a9:=aiH
 z9:=aiI
 v9:=DF
 t20:=aiJ
 a20:=aiK
 z20:=aiL
 v20:=aiM
 t21:=ajt
 a21:=aju
 z21:=ajv
 v21:=ajw
 t37:=DC
 a37:=aiN
 z37:=aiO
 v37:=aiP
 t46:=ajx
 a46:=ajy
 z46:=ajz
 v46:=ajA
 t51:=ajB
 a51:=ajC
 z51:=ajD
 v51:=ajE
 t53:=ajF
 a53:=ajG
 z53:=ajH
 v53:=ajI
 t75:=Iy
 a75:=aiQ
 z75:=aiR
 v75:=aiS
 t76:=aiT
 a76:=aiU
 z76:=aiV
 v76:=aiW
 t85:=ajJ
 a85:=ajK
 z85:=ajL
 v85:=ajM
 t127:=Iz
 a127:=aiX
 z127:=aiY
 v127:=aiZ
 t143:=ajN
 a143:=ajO
 z143:=ajP
 v143:=ajQ
 t145:=ajR
 a145:=ajS
 z145:=ajT
 v145:=ajU
 t167:=ajV
 a167:=ajW
 z167:=ajX
 v167:=ajY
 t168:=ajZ
 a168:=aj0
 z168:=aj1
 v168:=aj2
 t171:=aj3
 a171:=aj4
 z171:=aj5
 v171:=aj6
 t173:=aj7
 a173:=aj8
 z173:=aj9
 v173:=aj_
 t175:=aj'
 a175:=aka
 z175:=akb
 v175:=akc
 t210:=akd
 a210:=ake
 z210:=akf
 v210:=akg
 t212:=akh
 a212:=aki
 z212:=akj
 v212:=akk
 t213:=akl
 a213:=akm
 z213:=akn
 t232:=ako
 a232:=akp
 z232:=akq
 v232:=akr
 t233:=aks
 a233:=akt
 z233:=aku
 v233:=akv
 g15:=by kernel_rfl
 g16:=by kernel_rfl
 g17:=by kernel_rfl
 g18:=by kernel_rfl
 g19:=by kernel_rfl}
open Go.RowKit in
theorem Tryz.strconv_Atoi(s:ByteArray)(n:Int)(hl:s.size<=18)(h:Lib.atoi s.data.toList=some n)(w:World):
  Calls Ψ 269 #[.string s] w fun e w'=>e= .returned (.tuple #[.int .i64 n,.nilIface])/\∃t,w'=Lib.bytesWorld w 5 t:=Any.strconv_Atoi Tryz.ac4 s n hl h w
def Tryz.ac3:Go.Shelf.Ren:=⟨fun|171=>109|243=>173|246=>222|283=>261|284=>262|285=>263|286=>264|129=>287|317=>286|318=>288|319=>289|320=>290|337=>301|338=>302|n=>n,fun|3=>3|9=>9|2=>2|4=>4|171=>314|0=>0|53=>284|37=>51|5=>5|173=>317|212=>338|51=>171|20=>20|213=>339|46=>226|232=>353|233=>354|n=>n,fun|17=>5|18=>6|19=>7|n=>n⟩
theorem Tryz.ac2:Go.Proofs.Lays.n171 Tryz.prog Tryz.ac3:= {
 mixed:=by kernel_rfl
 f129:=ai2.trans (congrArg some (by kernel_rfl))
 f171:=aii.trans (congrArg some (by kernel_rfl))
 f243:=ai4.trans (congrArg some (by kernel_rfl))
 f246:=ai7.trans (congrArg some (by kernel_rfl))
 f283:=ajb.trans (congrArg some (by kernel_rfl))
 f284:=ajc.trans (congrArg some (by kernel_rfl))
 f285:=ajd.trans (congrArg some (by kernel_rfl))
 f286:=aje.trans (congrArg some (by kernel_rfl))
 f317:=ajh.trans (congrArg some (by kernel_rfl))
 f318:=aji.trans (congrArg some (by kernel_rfl))
 f319:=ajj.trans (congrArg some (by kernel_rfl))
 f320:=ajk.trans (congrArg some (by kernel_rfl))
 f337:=ajn.trans (congrArg some (by kernel_rfl))
 f338:=ajo.trans (congrArg some (by kernel_rfl))
 t0:=aiy
 a0:=aiz
 z0:=aiA
 v0:=aiB
 t2:=ajp
 a2:=ajq
 z2:=ajr
 v2:=ajs
 t3:=AY
 a3:=aiC
 z3:=aiD
 v3:=DD
 t4:=DA
 a4:=aiE
 z4:=aiF
 v4:=aiG
 t5:=DB
 a5:=ai0
 z5:=ai1
 v5:=DE
 t9:=tf
 a9:=aiH
 z9:=aiI
 v9:=DF
 t20:=aiJ
 a20:=aiK
 z20:=aiL
 v20:=aiM
 t37:=DC
 a37:=aiN
 z37:=aiO
 v37:=aiP
 t46:=ajx
 a46:=ajy
 z46:=ajz
 v46:=ajA
 t51:=ajB
 a51:=ajC
 z51:=ajD
 v51:=ajE
 t53:=ajF
 a53:=ajG
 z53:=ajH
 v53:=ajI
 t171:=aj3
 a171:=aj4
 z171:=aj5
 v171:=aj6
 t173:=aj7
 a173:=aj8
 z173:=aj9
 v173:=aj_
 t212:=akh
 a212:=aki
 z212:=akj
 v212:=akk
 t213:=akl
 a213:=akm
 z213:=akn
 t232:=ako
 a232:=akp
 z232:=akq
 v232:=akr
 t233:=aks
 a233:=akt
 z233:=aku
 v233:=akv
 g17:=by kernel_rfl
 g18:=by kernel_rfl
 g19:=by kernel_rfl}
open Go.RowKit Go.Sort Go.Lib in
theorem Tryz.strconv_Itoa_small(i:Nat)(hi:i<100)(w:World):
  Calls Ψ 109 #[.int .i64 i] w fun e w'=>e= .returned (.string ⟨(Lib.decDigits i).toArray⟩)/\w'=w:=Any.strconv_Itoa_small Tryz.ac2 i hi w
def Tryz.ac7:Go.Shelf.Ren:=⟨fun|172=>269|244=>292|245=>293|247=>303|279=>304|280=>305|281=>306|282=>307|287=>312|316=>313|171=>109|205=>314|321=>316|322=>317|243=>173|246=>222|283=>261|284=>262|285=>263|286=>264|129=>287|317=>286|318=>288|319=>289|320=>290|337=>301|338=>302|n=>n,fun|9=>9|3=>3|75=>153|76=>154|4=>4|5=>5|167=>347|37=>51|0=>0|85=>348|2=>2|168=>350|53=>284|175=>355|46=>226|210=>358|127=>241|145=>363|143=>361|21=>21|171=>314|173=>317|212=>338|51=>171|20=>20|213=>339|232=>353|233=>354|80=>161|n=>n,fun|15=>8|16=>9|17=>5|18=>6|19=>7|n=>n⟩
theorem Tryz.ac6:Go.Proofs.LaysC.n172 Tryz.prog Tryz.ac7:= {
 mixed:=by kernel_rfl
 f129:=ai2.trans (congrArg some (by kernel_rfl))
 f171:=aii.trans (congrArg some (by kernel_rfl))
 f172:=aip.trans (congrArg some (by kernel_rfl))
 f205:=ai3.trans (congrArg some (by kernel_rfl))
 f243:=ai4.trans (congrArg some (by kernel_rfl))
 f244:=ai5.trans (congrArg some (by kernel_rfl))
 f245:=ai6.trans (congrArg some (by kernel_rfl))
 f246:=ai7.trans (congrArg some (by kernel_rfl))
 f247:=ai8.trans (congrArg some (by kernel_rfl))
 f279:=ai9.trans (congrArg some (by kernel_rfl))
 f280:=ai_.trans (congrArg some (by kernel_rfl))
 f281:=ai'.trans (congrArg some (by kernel_rfl))
 f282:=aja.trans (congrArg some (by kernel_rfl))
 f283:=ajb.trans (congrArg some (by kernel_rfl))
 f284:=ajc.trans (congrArg some (by kernel_rfl))
 f285:=ajd.trans (congrArg some (by kernel_rfl))
 f286:=aje.trans (congrArg some (by kernel_rfl))
 f287:=ajf.trans (congrArg some (by kernel_rfl))
 f316:=ajg.trans (congrArg some (by kernel_rfl))
 f317:=ajh.trans (congrArg some (by kernel_rfl))
 f318:=aji.trans (congrArg some (by kernel_rfl))
 f319:=ajj.trans (congrArg some (by kernel_rfl))
 f320:=ajk.trans (congrArg some (by kernel_rfl))
 f321:=ajl.trans (congrArg some (by kernel_rfl))
 f322:=ajm.trans (congrArg some (by kernel_rfl))
 f337:=ajn.trans (congrArg some (by kernel_rfl))
 f338:=ajo.trans (congrArg some (by kernel_rfl))
 t0:=aiy
 a0:=aiz
 z0:=aiA
 v0:=aiB
 t2:=ajp
 a2:=ajq
 z2:=ajr
 v2:=ajs
 t3:=AY
 a3:=aiC
 z3:=aiD
 v3:=DD
 t4:=DA
 a4:=aiE
 z4:=aiF
 v4:=aiG
 t5:=DB
 a5:=ai0
 z5:=ai1
 v5:=DE
 t9:=tf
 a9:=aiH
 z9:=aiI
 v9:=DF
 t20:=aiJ
 a20:=aiK
 z20:=aiL
 v20:=aiM
 t21:=ajt
 a21:=aju
 z21:=ajv
 v21:=ajw
 t37:=DC
 a37:=aiN
 z37:=aiO
 v37:=aiP
 t46:=ajx
 a46:=ajy
 z46:=ajz
 v46:=ajA
 t51:=ajB
 a51:=ajC
 z51:=ajD
 v51:=ajE
 t53:=ajF
 a53:=ajG
 z53:=ajH
 v53:=ajI
 t75:=Iy
 a75:=aiQ
 z75:=aiR
 v75:=aiS
 t76:=aiT
 a76:=aiU
 z76:=aiV
 v76:=aiW
 t85:=ajJ
 a85:=ajK
 z85:=ajL
 v85:=ajM
 t127:=Iz
 a127:=aiX
 z127:=aiY
 v127:=aiZ
 t143:=ajN
 a143:=ajO
 z143:=ajP
 v143:=ajQ
 t145:=ajR
 a145:=ajS
 z145:=ajT
 v145:=ajU
 t167:=ajV
 a167:=ajW
 z167:=ajX
 v167:=ajY
 t168:=ajZ
 a168:=aj0
 z168:=aj1
 v168:=aj2
 t171:=aj3
 a171:=aj4
 z171:=aj5
 v171:=aj6
 t173:=aj7
 a173:=aj8
 z173:=aj9
 v173:=aj_
 t175:=aj'
 a175:=aka
 z175:=akb
 v175:=akc
 t210:=akd
 a210:=ake
 z210:=akf
 v210:=akg
 t212:=akh
 a212:=aki
 z212:=akj
 v212:=akk
 t213:=akl
 a213:=akm
 z213:=akn
 t232:=ako
 a232:=akp
 z232:=akq
 v232:=akr
 t233:=aks
 a233:=akt
 z233:=aku
 v233:=akv
 g15:=by kernel_rfl
 g16:=by kernel_rfl
 g17:=by kernel_rfl
 g18:=by kernel_rfl
 g19:=by kernel_rfl
 t80:=Tryz.underlying161
 a80:=Tryz.isAgg161
 z80:=Tryz.sizeOf161
 v80:=Tryz.zeroValue161
 i0:=by kernel_rfl
 i2:=by kernel_rfl
 i3:=by kernel_rfl
 i4:=by kernel_rfl
 i5:=by kernel_rfl
 i9:=by kernel_rfl
 i20:=by kernel_rfl
 i21:=by kernel_rfl
 i37:=by kernel_rfl
 i46:=by kernel_rfl
 i51:=by kernel_rfl
 i53:=by kernel_rfl
 i75:=by kernel_rfl
 i76:=by kernel_rfl
 i80:=by kernel_rfl
 i85:=by kernel_rfl
 i127:=by kernel_rfl
 i143:=by kernel_rfl
 i145:=by kernel_rfl
 i167:=by kernel_rfl
 i168:=by kernel_rfl
 i171:=by kernel_rfl
 i173:=by kernel_rfl
 i175:=by kernel_rfl
 i210:=by kernel_rfl
 i212:=by kernel_rfl
 i232:=by kernel_rfl
 i233:=by kernel_rfl
 m15:=by kernel_rfl
 m16:=by kernel_rfl
 m17:=by kernel_rfl
 m18:=by kernel_rfl
 m19:=by kernel_rfl
 c0:=by kernel_rfl
 c2:=by kernel_rfl
 c3:=by kernel_rfl
 c4:=by kernel_rfl
 c5:=by kernel_rfl
 c9:=by kernel_rfl
 c20:=by kernel_rfl
 c21:=by kernel_rfl
 c37:=by kernel_rfl
 c46:=by kernel_rfl
 c51:=by kernel_rfl
 c53:=by kernel_rfl
 c75:=by kernel_rfl
 c76:=by kernel_rfl
 c80:=by kernel_rfl
 c85:=by kernel_rfl
 c127:=by kernel_rfl
 c143:=by kernel_rfl
 c145:=by kernel_rfl
 c167:=by kernel_rfl
 c168:=by kernel_rfl
 c171:=by kernel_rfl
 c173:=by kernel_rfl
 c175:=by kernel_rfl
 c210:=by kernel_rfl
 c212:=by kernel_rfl
 c213:=by kernel_rfl
 c232:=by kernel_rfl
 c233:=by kernel_rfl}
open Go.RowKit in
theorem Tryz.strconv_Atoi_err(s:ByteArray)(hl:s.size<=18)(h:Lib.atoi s.data.toList=none)(ev:Value)(w:World)(hv:w.cell? ⟨8,0,none⟩=some ev)(ax:ev= .nilIface\/∃te pe,ev= .iface te pe):
  Calls Ψ 269 #[.string s] w fun e w'=>∃N,e= .returned (.tuple #[.int .i64 0,.iface 350 (.pointer (some ⟨N,0,none⟩))])/\w.heap.size<=N/\w'.heap[N]?=some (.cells #[.string ⟨#[65,116,111,105]⟩,.string s,ev] 358 (0,0))/\Below w.heap.size w w':=Any.strconv_Atoi_err Tryz.ac6 s hl h ev w hv ax
end Go.Proofs
