import Derived.Test.YtiigojkfojnedaaGreatDoorQA
import Derived.Laws.StructEq
import Derived.Laws.Build
set_option linter.unusedVariables false
set_option linter.unusedSimpArgs false
set_option maxRecDepth 100000
set_option maxHeartbeats 8000000
open List renaming map_cons->ay,getElem_drop->wW,extract_eq_take_drop->Nd,mem_of_mem_drop->qp,mem_of_mem_take->pa,mem_iff_getElem->qo,length_cons->eZ,getElem_cons_zero->me,mem_append->dE,getElem?_eq_getElem->dr,getElem_mem->cL,getElem?_eq_some_iff->kg,all_eq_true->gu,drop_of_length_le->ahJ,mem_map->jy,map_map->c6,length_eraseIdx_of_lt->ahO
open Nat renaming add_assoc->vt,add_zero->ui,mul_le_mul_right->rG,add_mul->kM,le_refl->bF,zero_le->qu,zero_add->jz
open Array renaming getElem_toList->l9,toList_extract->ahF,length_toList->vk,foldl_toList->ahG,toList_zipIdx->ahH,getElem?_eq_getElem->vj,range->ahK,toArray_toList->wV,getElem?_setIfInBounds_ne->Ic,getElem_push->ahM,eraseIdxIfInBounds->ahN
open Option renaming map_eq_some_iff->bH,map_some->qv,map_none->ahI
open Option.some renaming injEq->aZ
open Prod.mk renaming injEq->aN
open Bool renaming false_eq_true->gY,and_eq_true->jv,or_eq_true->ahL,and_self->vm
namespace Go.ah
section
variable{P:Program}{g:Gh}{lb:LB}{w:World}
theorem SG{a b:List UInt8}(h:a.map UInt8.toNat=b.map UInt8.toNat):a=b:=by
 induction a generalizing b with
 |nil=>cases b with
  |nil=>rfl
  |cons=>simp at h
 |cons x a ih=>cases b with
  |nil=>simp at h
  |cons y b=>
   simp only[ay,List.cons.injEq]at h
   rw[UInt8.toNat_inj.1 h.1,ih h.2]
theorem adv(a b:List UInt8):wF (a.map UInt8.toNat) (b.map UInt8.toNat)=Op.bytesLess a b:=by
 induction a generalizing b with
 |nil=>cases b<;>rfl
 |cons x a ih=>
  cases b with
  |nil=>rfl
  |cons y b=>
   simp only[ay,wF,Op.bytesLess,ih]
   congr 1;congr 1;by_cases h:x=y
   ·subst h;simp
   ·have:x.toNat≠y.toNat:=fun e=>h (UInt8.toNat_inj.1 e);simp[h,this]
theorem MR{a b:ByteArray}{s t:List Nat}(ha:a.data.toList.map UInt8.toNat=s)(hb:b.data.toList.map UInt8.toNat=t):(a.toList==b.toList)=decide (s=t):=by
 rw[ByteArray.toList_eq,ByteArray.toList_eq];subst ha hb;by_cases h:a.data.toList=b.data.toList
 ·rw[h];simp
 ·have h2:a.data.toList.map UInt8.toNat≠b.data.toList.map UInt8.toNat:=fun e=>h (SG e);rw[decide_eq_false h2];exact beq_eq_false_iff_ne.2 h
theorem Dh{a:ByteArray}{s:List Nat}(ha:a.data.toList.map UInt8.toNat=s):a.size=s.length:=by subst ha;simp
theorem UJ{op:BinOp}{k:IntKind}{a b:Int}{v:AV}(h:gH op k a b=some v):
  ∃x,(match op with
   | .add| .sub| .mul=>Op.intArith op k a b
   | .quo| .rem=>Op.intDiv op k a b
   | .and| .or| .xor| .andNot=>Op.intBits op k a b
   |_=>Op.intCmp op a b).run P w= .ok x w/\VR g lb v x:=by
 cases op<;>simp only[gH]at h
 case quo=>
  split at h
  ·cases h
  ·rename_i hb;cases h;exact⟨_,by simp[Op.intDiv,hb],.int _ _ _⟩
 case rem=>
  split at h
  ·cases h
  ·rename_i hb;cases h;exact⟨_,by simp[Op.intDiv,hb],.int _ _ _⟩
 all_goals first|(cases h;done)|(cases h;first|exact⟨_,rfl,.int _ _ _⟩|exact⟨_,rfl,.bool _ _⟩)
theorem UK{op:BinOp}{a b:ByteArray}{s t:List Nat}{v:AV}(ha:a.data.toList.map UInt8.toNat=s)(hb:b.data.toList.map UInt8.toNat=t)(h:bY op s t=some v):
  ∃x,(Op.stringOp op a b).run P w= .ok x w/\VR g lb v x:=by
 have he:=MR ha hb;have hl:wF s t=Op.bytesLess a.toList b.toList:=by rw[ByteArray.toList_eq,ByteArray.toList_eq,<-adv,ha,hb]
 have hs:(a.size+b.size:Nat)=s.length+t.length:=by rw[Dh ha,Dh hb]
 cases op<;>simp only[bY]at h
 case add=>
  split at h
  ·cases h
  ·rename_i hc;cases h;rw[<-hs]at hc;refine⟨.string (a++b),by simp only[Op.stringOp,if_neg hc];rfl,.str _ _ _ ?_⟩;rw[<-ha,<-hb];simp
 all_goals first|(cases h;done)|(cases h;exact⟨_,by simp only[Op.stringOp,he,hl];rfl,.bool _ _⟩)
theorem run_equalIn_bool(d:Nat){t:TypeId}(hu:P.underlying t=some .bool)(a b:Bool):(Op.equalIn (d+1) t (.bool a) (.bool b)).run P w= .ok (a==b) w:=by simp only[Op.equalIn,Sem.run_bind,run_underlying hu,Result.andThen_ok];rfl
theorem UI{op:BinOp}{t:TypeId}{x y:AV}{xv yv:Value}{v:AV}(hx:VR g lb x xv)(hy:VR g lb y yv)(h:gy op x y=some v):
  ∃r,(binOp op t xv yv).run P w= .ok r w/\VR g lb v r:=by
 unfold gy at h;split at h
 ·rename_i k a k' b;cases hx;cases hy;cases op
  case shl=>
   dsimp only at h
   split at h
   ·cases h
   ·rename_i hc;cases h;exact⟨_,by simp[binOp,Op.shift,hc],.int _ _ _⟩
  case shr=>
   dsimp only at h
   split at h
   ·cases h
   ·rename_i hc;cases h;exact⟨_,by simp[binOp,Op.shift,hc],.int _ _ _⟩
  all_goals
   dsimp only at h;split at h
   ·rename_i hk;subst hk;obtain⟨r,h1,h2⟩:=UJ (P:=P) (w:=w) (g:=g) (lb:=lb) h;exact⟨r,by simpa[binOp]using h1,h2⟩
   ·cases h
 ·cases hx;cases hy;rename_i ha _ bf;obtain⟨r,h1,h2⟩:=UK (P:=P) (w:=w) (g:=g) (lb:=lb) ha bf h;exact⟨r,by cases op<;>simpa[binOp]using h1,h2⟩
 ·cases h
theorem UL{op:UnOp}{x:AV}{xv:Value}{v:AV}(hx:VR g lb x xv)(h:gI op x=some v):∃r,(Op.unary op xv).run P w= .ok r w/\VR g lb v r:=by
 unfold gI at h;split at h
 ·cases hx;cases h;exact⟨_,rfl,.int _ _ _⟩
 ·cases hx;cases h;exact⟨_,rfl,.bool _ _⟩
 ·cases h
theorem S_{p:AV}{x:Value}{off:Nat}{v:AV}(hx:VR g lb p x)(h:gE p off=some v):∃a:Addr,x= .pointer (some a)/\VR g lb v (.pointer (some (a.add off))):=by
 unfold gE at h;split at h
 ·cases hx;rename_i b hb;cases h;exact⟨_,rfl,by rw[Addr.add_mid];exact .ae _ _ _ _ _ hb⟩
 ·cases hx;rename_i b hb;cases h;exact⟨_,rfl,by rw[Addr.add_mid];exact .ν _ _ _ _ hb⟩
 ·split at h
  ·rename_i l hle;cases hx;rename_i b o xs cu hv;cases h;refine⟨_,rfl,?_⟩;rw[Addr.add_mid];refine .ref _ _ b (o+off) (fun i=>xs (off+i)) (fun i hi=>?_) (fun i hi=>?_)
   ·have:=cu (off+i) (by simp at hi;omega);rwa[<-vt]at this
   ·simp only[wW];exact hv (off+i) (by simp at hi;omega)
  ·cases h
 ·cases h
theorem ID{ag:Bool}{l:List AV}{a:Array Value}{v:AV}(hp:PW (VR g lb) l a.toList)(h1:∀v∈a.toList,v.oneCell'=true)(h:fK ag l=some v):
  (ag=true->VR g lb v (.agg a))/\(ag=false->∃x,a= #[x]/\VR g lb v x):=by
 have hlen:l.length=a.size:=by simpa using hp.1
 unfold fK at h;split at h
 ·rename_i lO;cases h;refine⟨fun _=> .agg _ _ _ hlen.symm (fun i hi=>h1 _ (by simp)) (fun i hi aj=>by have:=hp.2 i hi (by simpa using aj);rwa[l9]at this),fun hf=>by rw[lO]at hf;cases hf⟩
 ·rename_i lO;unfold single at h;split at h
  ·cases h;refine⟨fun hf=>absurd hf lO,fun _=>?_⟩;obtain⟨xs⟩:=a
   match xs,hlen with
   |[x],_=>exact⟨x,rfl,hp.2 0 (by simp) (by simp)⟩
  ·cases h
theorem S'{l:List AV}{a:Array Value}{t:TypeId}{off n:Nat}{ag:Bool}{v:AV}(hl:VR g lb (.agg l) (.agg a))(hle:off+n<=l.length)
  (lO:(isAgg t).run P w= .ok ag w) (bh:(sizeOf t).run P w= .ok n w) (h:fK ag ((l.drop off).take n)=some v):∃r,(part t a off).run P w= .ok r w/\VR g lb v r:=by
 cases hl with
 |agg _ _ _ hs h1 hv=>
 have oe:PW (VR g lb) l a.toList:=⟨by simpa using hs.symm,fun i hi aj=>by simpa using hv i hi (by simpa using aj)⟩
 have hp:PW (VR g lb) ((l.drop off).take n) (a.extract off (off+n)).toList:=by have:=(oe.drop off).take n;simpa[ahF,Nd]using this
 have fF:∀v∈(a.extract off (off+n)).toList,v.oneCell'=true:=by
  intro v mX;have:v∈a.toList:=by rw[ahF,Nd]at mX;exact qp (pa mX)
  obtain⟨i,hi,rfl⟩:=qo.1 this;simpa using h1 i (by simpa using hi)
 obtain⟨k1,k2⟩:=ID hp fF h;cases ag with
 |true=>exact⟨_,by simp[part,lO,bh],k1 rfl⟩
 |false=>
  obtain⟨x,hx,hvx⟩:=k2 rfl
  have Rm:(a.extract off (off+n)).size=1:=by rw[hx];rfl
  have hn:n=1:=by simp at Rm;omega
  subst hn;have zO:a[off]?=some x:=by
   have h0:=congrArg (fun z:Array Value=>z[0]?) hx;have ρ:off<a.size:=by omega
   simp only[Array.getElem?_extract]at h0;rw[if_pos (by omega)]at h0;simpa using h0
  exact⟨x,by simp[part,lO,zO],hvx⟩
def NK.fits(P:Program)(t:TypeId):NK->Value->Prop
 | .ptr,v=>(∃e,P.underlying t=some (.pointer e))/\v= .pointer none
 | .slice,v=>(∃e,P.underlying t=some (.slice e))/\v= .slice none 0 0
 | .fn,v=>(∃a b c,P.underlying t=some (.func a b c))/\v= .nilFunc
 | .iface,v=>(∃m,P.underlying t=some (.interface m))/\v= .nilIface
 | .map,v=>(∃k e,P.underlying t=some (.map k e))/\v= .map none
theorem aaE{t:TypeId}{k:NK}{x:AV}{xv Mc:Value}{r:Bool}(hx:VR g lb x xv)(h:isNil k x=some r)(ht:k.fits P t Mc):
  (Op.equal t xv Mc).run P w= .ok r w:=by
 have key:∀d,(Op.equalIn (d+1) t xv Mc).run P w= .ok r w:=by
  intro d;unfold isNil at h;split at h<;>first|(cases h;done)|skip
  all_goals cases h
  all_goals first
   |(obtain⟨⟨e,hu⟩,rfl⟩:=ht;cases hx<;>first|(simp only[Op.equalIn,Sem.run_bind,run_underlying hu,Result.andThen_ok];rfl)|(exfalso;simp_all [nw];done))
   |(obtain⟨⟨e,e',hu⟩,rfl⟩:=ht;cases hx<;>(simp only[Op.equalIn,Sem.run_bind,run_underlying hu,Result.andThen_ok];rfl))
   |(obtain⟨⟨e,e',e'',hu⟩,rfl⟩:=ht;cases hx<;>(simp only[Op.equalIn,Sem.run_bind,run_underlying hu,Result.andThen_ok];rfl))
 exact key 9999
end
def DG:Value->Option AV
 | .bool b=>some (.bool b)
 | .int k n=>some (.int k n)
 | .string s=>some (.str (s.data.toList.map UInt8.toNat))
 | .pointer none=>some .iK
 | .slice none 0 0=>some (.list .nil [])
 | .map none=>some .fJ
 | .nilFunc=>some .eJ
 | .nilIface=>some .fY
 |_=>none
def DH:List Value->Option (List AV)
 |[]=>some []
 |v::l=>match DG v,DH l with
  |some a,some m=>some (a::m)
  |_,_=>none
def AZ:Value->Option AV
 | .agg cs=>(DH cs.toList).map .agg
 | .tuple a=>if a.size=0 then some .undef else none
 | .func (.func f) a b=>if a.size=0/\b.size=0 then some (.fn (.func f) [] [])else none
 |v=>DG v
def cm:Operand->Option bm
 | .tmp t=>some (.t t)
 | .const v=>(AZ v).map .c
 | .global g=>some (.g g)
 | .func f=>some (.c (.fn (.func f) [] []))
def vz:List Operand->Option (List bm)
 |[]=>some []
 |x::l=>match cm x,vz l with
  |some a,some m=>some (a::m)
  |_,_=>none
section
variable(P:Program)
def kI(t:TypeId):Option Nat:=match P.info? t with
 |some i=>if 0<i.size then some i.size else none
 |none=>none
def vg(t:TypeId):Option Bool:=match P.underlying t with
 |some (.struct _)=>some true
 |some (.array _ _)=>some true
 |some _=>some false
 |none=>none
def ua(t:TypeId):Option (List AV):=match P.info? t with
 |some i=>match i.zero with
  |some z=>match AZ z with
   |some v=>if 0<i.size/\z.cells.size=i.size/\v.cells.length=i.size then some v.cells else none
   |none=>none
  |none=>none
 |none=>none
def Uk(t:TypeId):Option AV:=match P.info? t with
 |some i=>match i.zero with
  |some z=>AZ z
  |none=>none
 |none=>none
def H9(s:TypeId)(f:Nat):Option (Nat×TypeId):=match P.underlying s with
 |some (.struct fields)=>match fields[f]? with
  |some fd=>some (fd.offset,fd.type)
  |none=>none
 |_=>none
def places:List Field->Option (List (Nat×Nat))
 |[]=>some []
 |f::l=>match P.info? f.type,places l with
  |some i,some m=>some ((f.offset,i.size)::m)
  |_,_=>none
def y6(fields:Array Field):List (Nat×Operand)->Option (List (Nat×Nat×bm))
 |[]=>some []
 |(i,x)::l=>match fields[i]?,cm x,y6 fields l with
  |some fd,some x',some l'=>match kI P fd.type with
   |some n=>some ((fd.offset,n,x')::l')
   |none=>none
  |_,_,_=>none
def y5(sz:Nat):List (Nat×Operand)->Option (List (Nat×Nat×bm))
 |[]=>some []
 |(i,x)::l=>match cm x,y5 sz l with
  |some x',some l'=>some ((i*sz,sz,x')::l')
  |_,_=>none
def D9:Nat->List (Nat×Operand)->Option (List Operand)
 |_,[]=>some []
 |k,(i,x)::l=>if i=k then(D9 (k+1) l).map (x::·)else none
def oW(t:TypeId):Option KK:=match P.underlying t with
 |some (.int _)=>some .int
 |some .string=>some .str
 |some .bool=>some .bool
 |_=>none
def Ew:Nat->List Field->Option (List KK)
 |_,[]=>some []
 |k,f::l=>match oW P f.type,kI P f.type,Ew (k+1) l with
  |some kk,some 1,some ks=>if f.name≠ "_" /\f.offset=k then some (kk::ks)else none
  |_,_,_=>none
def BC(t:TypeId):Option (List KK):=
 if P.eqGuardType P.depth t then none else
 match P.underlying t with
  |some (.struct fields)=>if P.stoodInHeld t then none else Ew P 0 fields.toList
  |some (.array n e)=>match oW P e,kI P e with
   |some kk,some 1=>some (List.replicate n kk)
   |_,_=>none
  |_=>none
def uo:Option Operand->Option (Option bm)
 |none=>some none
 |some x=>(cm x).map some
def Mb:NK->Operand->Bool
 | .ptr,.const (.pointer none)=>true
 | .slice,.const (.slice none 0 0)=>true
 | .fn,.const .nilFunc=>true
 | .iface,.const .nilIface=>true
 | .map,.const (.map none)=>true
 |_,_=>false
def um(k:NK)(op:BinOp)(x:bm)(y:Operand):Option AO:=
 if Mb k y then match op with
  | .eql=>some (.CB false k x)
  | .neq=>some (.CB true k x)
  |_=>none
 else none
def MZ(t:TypeId):Option TypeId:=match P.info? t with
 |some i=>match i.desc,i.zero,P.underlying t with
  | .named "strings.Builder" _,some (.agg ⟨[.pointer none,.slice none 0 0]⟩),some (.struct ⟨[_,fd]⟩)=>match P.underlying fd.type with
   |some (.slice e)=>some e
   |_=>none
  |_,_,_=>none
 |none=>none
def bE(bJ:Nat->Bool)(o:Oper):Option AO:=
 match o.op with
 | .move x=>(cm x).map .mv
 | .assign x=>(cm x).map .mv
 | .pick c a b=>match cm c,cm a,cm b with
  |some c,some a,some b=>some (.pick c a b)
  |_,_,_=>none
 | .alloc e=>match o.dst,ua P e with
  |some d,some z=>match(if bJ d then MZ P e else none)with
   |some be=>some (.abld e be)
   |none=>some (.alloc (bJ d) z)
  |_,_=>none
 | .box e x=>match o.dst,kI P e,cm x with
  |some d,some n,some x=>some (.box (bJ d) n x)
  |_,_,_=>none
 | .build t parts=>match ua P t,P.underlying t with
  |some z,some (.struct fields)=>match places P fields.toList with
   |some _=>(y6 P fields parts.toList).map (.build z)
   |none=>none
  |some z,some (.array _ e)=>match kI P e with
   |some sz=>(y5 sz parts.toList).map (.build z)
   |none=>none
  |_,_=>none
 | .buildSlice t len parts=>match P.underlying t,D9 0 parts.toList with
  |some (.slice e),some xs=>match kI P e,vg P e,ua P e,vz xs with
   |some sz,some ag,some _,some vi=>if xs.length=len/\len*sz<=2^24 then some (.bU ag sz vi)else none
   |_,_,_,_=>none
  |_,_=>none
 | .load t a=>match vg P t,kI P t,cm a with
  |some ag,some n,some a=>some (.ld ag n a)
  |_,_,_=>none
 | .store t a x=>match kI P t,cm a,cm x with
  |some n,some a,some x=>some (.st n a x)
  |_,_,_=>none
 | .nilCheck x=>(cm x).map .m_
 | .binOp op t x y _=>
  match P.underlying t,cm x,cm y with
  |some (.int _),some x',some y'=>some (.bin op x' y')
  |some .string,some x',some y'=>some (.bin op x' y')
  |some .bool,some x',some y'=>(match op with
    | .eql=>some (.Bx false x' y')
    | .neq=>some (.Bx true x' y')
    |_=>none)
  |some (.struct _),some x',some y'=>(match BC P t,op with
    |some ks,.eql=>some (.eqs false ks x' y')
    |some ks,.neq=>some (.eqs true ks x' y')
    |_,_=>none)
  |some (.array _ _),some x',some y'=>(match BC P t,op with
    |some ks,.eql=>some (.eqs false ks x' y')
    |some ks,.neq=>some (.eqs true ks x' y')
    |_,_=>none)
  |some (.pointer _),some x',some _=>um .ptr op x' y
  |some (.slice _),some x',some _=>um .slice op x' y
  |some (.func _ _ _),some x',some _=>um .fn op x' y
  |some (.interface _),some x',some _=>um .iface op x' y
  |some (.map _ _),some x',some _=>um .map op x' y
  |_,_,_=>none
 | .makeSlice t n c=>match P.underlying t,cm n,cm c with
  |some (.slice e),some n,some c=>match ua P e,P.info? e with
   |some z,some i=>some (.mkslc (if(vg P e).getD true then z.length else 0) z i.bytes n c)
   |_,_=>none
  |_,_,_=>none
 | .unOp op _ x=>(cm x).map (.un op)
 | .convert s d x=>match P.underlying s,P.underlying d,cm x with
  |some _,some (.int k),some x=>some (.conv (.int k) x)
  |some .string,some .string,some x=>some (.conv .same x)
  |some (.int _),some .string,some x=>some (.conv .char x)
  |_,_,_=>none
 | .makeInterface t x=>match P.underlying t,cm x with
  |some (.interface _),_=>none
  |some _,some x=>some (.L7 t x)
  |_,_=>none
 | .makeFunc (.func f) a b=>match vz a.toList,vz b.toList with
  |some a,some b=>some (.i_ (.func f) a b)
  |_,_=>none
 | .fieldAddr s x f=>match H9 P s f,cm x with
  |some (off,t),some x=>match kI P t with
   |some _=>some (.fa off x)
   |none=>none
  |_,_=>none
 | .field s x f=>match H9 P s f,cm x with
  |some (off,t),some x=>match kI P t,vg P t with
   |some n,some ag=>some (.kq ag off n x)
   |_,_=>none
  |_,_=>none
 | .indexAddr t x i=>match P.underlying t,cm x,cm i with
  |some (.slice e),some x,some i=>(kI P e).map fun sz=> .ia sz x i
  |some (.array n e),some x,some i=>(kI P e).map fun sz=> .qV n sz x i
  |_,_,_=>none
 | .index t x i=>match P.underlying t,cm x,cm i with
  |some (.array n e),some x,some i=>match kI P e,vg P e with
   |some sz,some ag=>some (.Ac ag n sz x i)
   |_,_=>none
  |some .string,some x,some i=>some (.kE x i)
  |_,_,_=>none
 | .lookup t m k ok=>match P.underlying t,cm m,cm k with
  |some (.map kt e),some m,some k=>match Uk P e,oW P kt with
   |some z,some kk=>some (.lookup kk z ok m k)
   |_,_=>none
  |_,_,_=>none
 | .mapUpdate t m k v=>match P.underlying t,cm m,cm k,cm v with
  |some (.map kt _),some m,some k,some v=>(oW P kt).map fun kk=> .mapup kk m k v
  |_,_,_,_=>none
 | .insert t m k v=>match P.underlying t,cm m,cm k,cm v with
  |some (.map kt _),some m,some k,some v=>(oW P kt).map fun kk=> .mapup kk m k v
  |_,_,_,_=>none
 | .makeMap _ none=>some .mkmap
 | .makeMap t (some (.const (.int _ _)))=>match P.underlying t with
  |some (.map _ _)=>some .mkmap
  |_=>none
 | .slice t x lo hi mx=>match P.underlying t,cm x,uo lo,uo hi,uo mx with
  |some (.slice e),some x,some lo,some hi,some mx=>if mx.isSome&& !hi.isSome then none else(kI P e).map fun sz=> .yJ sz x lo hi mx
  |some .string,some x,some lo,some hi,some none=>some (.o9 x lo hi)
  |_,_,_,_,_=>none
 | .extract x k=>(cm x).map fun x=> .ext x k
 | .call c=>match c.callee with
  | .value f=>match cm f,vz c.args.toList with
   |some f,some args=>some (.call f args)
   |_,_=>none
  | .builtin .append=>match c.args.toList,c.argTypes.toList with
   |[x,y],[t,t']=>match P.underlying t,cm x,cm y with
    |some (.slice e),some x,some y=>match P.info? e,vg P e,ua P e with
     |some i,some ag,some _=>if t=t' then some (.app ag i.size i.bytes e x y)else none
     |_,_,_=>none
    |_,_,_=>none
   |_,_=>none
  | .builtin .len=>match c.args.toList,c.argTypes.toList with
   |[x],[t]=>match P.underlying t,cm x with
    |some .string,some x=>some (.lens x)
    |some (.slice _),some x=>some (.len x)
    |some (.map _ _),some x=>some (.CN x)
    |some (.array n _),some _=>some (.LU n)
    |_,_=>none
   |_,_=>none
  | .builtin .delete=>match c.args.toList,c.argTypes.toList with
   |[m,k],t::_=>match P.underlying t,cm m,cm k with
    |some (.map kt _),some m,some k=>(oW P kt).map fun kk=> .del kk m k
    |_,_,_=>none
   |_,_=>none
  | .builtin .copy=>match c.args.toList,c.argTypes.toList with
   |[x,y],t::_=>match P.underlying t,cm x,cm y with
    |some (.slice e),some x,some y=>(kI P e).map fun sz=> .cpy sz x y
    |_,_,_=>none
   |_,_=>none
  | .builtin .clear=>match c.args.toList,c.argTypes.toList with
   |[x],[t]=>match P.underlying t,cm x with
    |some (.slice e),some x=>(ua P e).map fun z=> .clr z x
    |_,_=>none
   |_,_=>none
  | .builtin .max=>match c.args.toList with
   |[x,y]=>match cm x,cm y with
    |some x,some y=>some (.max x y)
    |_,_=>none
   |_=>none
  | .builtin .min=>match c.args.toList with
   |[x,y]=>match cm x,cm y with
    |some x,some y=>some (.min x y)
    |_,_=>none
   |_=>none
  |_=>none
 | .range t x=>match P.underlying t,cm x with
  |some .string,some x=>some (.qd x)
  |_,_=>none
 | .next x true=>(cm x).map .yw
 |_=>none
def Pm(bJ:Nat->Bool)(o:Oper):AO:=(bE P bJ o).getD .bad
end
section
variable{P:Program}{g:Gh}{lb:LB}
theorem Nj{v:Value}{a:AV}(h:DG v=some a):VR g lb a v/\v.oneCell'=true:=by
 unfold DG at h;split at h<;>first|(cases h;done)|skip
 all_goals(cases h;refine⟨?_,rfl⟩)
 ·exact .bool _ _
 ·exact .int _ _ _
 ·exact .str _ _ _ rfl
 ·exact .iK _
 ·exact .iJ _
 ·exact .fJ _
 ·exact .eJ _
 ·exact .fY _
theorem UM{l:List Value}{m:List AV}(h:DH l=some m):PW (VR g lb) m l/\∀v∈l,v.oneCell'=true:=by
 induction l generalizing m with
 |nil=>cases h;exact⟨PW.nil,by simp⟩
 |cons v l ih=>
  simp only[DH]at h
  split at h
  ·rename_i a m' h1 h2;cases h;obtain⟨k1,k2⟩:=ih h2;obtain⟨k3,k4⟩:=Nj (g:=g) (lb:=lb) h1;exact⟨PW.cons k3 k1,by simp only[List.mem_cons,forall_eq_or_imp];exact⟨k4,k2⟩⟩
  ·cases h
theorem IA{v:Value}{a:AV}(h:AZ v=some a):VR g lb a v:=by
 unfold AZ at h;split at h
 ·rename_i cs;simp only[bH]at h;obtain⟨l,hl,rfl⟩:=h;obtain⟨k1,k2⟩:=UM (g:=g) (lb:=lb) hl;exact .agg _ _ _ (by simpa using k1.1.symm) (fun i hi=>k2 _ (by simp)) (fun i hi aj=>by have:=k1.2 i hi (by simpa using aj);rwa[l9]at this)
 ·rename_i a;split at h
  ·rename_i h0;cases h;have:a= #[]:=Array.size_eq_zero_iff.1 h0;subst this;exact .undef _
  ·cases h
 ·rename_i f a b;split at h
  ·rename_i h0;cases h;refine .fn _ _ _ _ _ a b h0.1 h0.2 rfl (fun i hi=>by simp at hi) (fun i hi=>by simp at hi)
  ·cases h
 ·exact(Nj h).1
end
section
variable{P:Program}{base:Nat}{LC:eN}{g:Gh}{lb:LB}{own:OW}{loc:Nat->Option (Nat×κ)}{mem:Mem}{w:World}{bJ:Nat->Bool}{aF:cx}
variable{ev:bm->AV}{a:Act}
def eE(P:Program)(base:Nat)(LC:eN)(g:Gh)(lb:LB)(own:OW)(loc:Nat->Option (Nat×κ))(w:World)(a:Act)(o:Oper)(v:AV)(u:kZ)(m':Mem):Prop:=
 ∃x w',((execOp a.eval o).run P w= .ok (.value x) w'\/((execOp a.eval o).run P w= .ok .skip w'/\x=undef))/\iO base LC g lb own loc w v u m' x w'
def eM(g:Gh)(lb:LB)(ev:bm->AV)(a:Act):Prop:=∀x x',cm x=some x'->VR g lb (ev x') (a.eval x)
theorem Ek(ax:eM g lb ev a){l:List Operand}{m:List bm}(h:vz l=some m):PW (VR g lb) (m.map ev) (l.map a.eval):=by
 induction l generalizing m with
 |nil=>cases h;exact PW.nil
 |cons x l ih=>
  simp only[vz]at h
  split at h
  ·rename_i x' m' h1 h2;cases h;exact PW.cons (ax _ _ h1) (ih h2)
  ·cases h
theorem oA{t:TypeId}{n:Nat}(h:kI P t=some n):(sizeOf t).run P w= .ok n w/\0<n/\(P.info? t).map (·.size)=some n:=by
 unfold kI at h;split at h
 ·rename_i i hi;split at h
  ·rename_i h0;cases h;exact⟨by simp[sizeOf,typeInfo,hi],h0,by simp[hi]⟩
  ·cases h
 ·cases h
theorem H8{t:TypeId}{ag:Bool}(h:vg P t=some ag):(isAgg t).run P w= .ok ag w:=by
 unfold vg at h;split at h
 ·rename_i hu;cases h;simp[isAgg,run_underlying hu]
 ·rename_i hu;cases h;simp[isAgg,run_underlying hu]
 ·rename_i d h1 h2 hu;cases h;have hd:∀w:World,(isAgg t).run P w=(match d with| .struct _| .array _ _=>(pure true:Sem Bool)|_=>pure false).run P w:=fun w=>by simp only[isAgg,Sem.run_bind,run_underlying hu,Result.andThen_ok]
  rw[hd];cases d<;>first|rfl|(exact absurd rfl (h1 _))|(exact absurd rfl (h2 _ _))
 ·cases h
theorem AD{t:TypeId}{l:List AV}(h:ua P t=some l):∃z i,P.info? t=some i/\i.zero=some z/\(zeroValue t).run P w= .ok z w/\z.cells.size=i.size/\l.length=i.size/\0<i.size∧
  PW (VR g lb) l z.cells.toList/\∀v∈z.cells.toList,v.oneCell'=true:=by
 unfold ua at h;split at h
 ·rename_i i hi;split at h
  ·rename_i z hz;split at h
   ·rename_i v hv;split at h
    ·rename_i hc;cases h;have wq:=IA (g:=g) (lb:=lb) hv;obtain⟨k1,k2,k3⟩:=wq.cells (by intro hn;rw[hn]at hc;simp at hc;omega);refine⟨z,i,hi,hz,by simp[zeroValue,typeInfo,hi,hz],hc.2.1,hc.2.2,hc.1,⟨by simpa using k1.symm,fun i hi aj=>?_⟩,fun u hu=>?_⟩
     ·have:=k2 i hi (by simpa using aj);rwa[l9]
     ·obtain⟨j,hj,rfl⟩:=qo.1 hu;have:=k3 j (by simpa using hj);rwa[l9]
    ·cases h
   ·cases h
  ·cases h
 ·cases h
theorem HP{v:AV}{x:Value}(h:VR g lb v x)(hn:0<v.cells.length):PW (VR g lb) v.cells x.cells.toList/\∀u∈x.cells.toList,u.oneCell'=true:=by
 obtain⟨k1,k2,k3⟩:=h.cells (by intro h0;rw[h0]at hn;simp at hn);refine⟨⟨by simpa using k1.symm,fun i hi aj=>?_⟩,fun u hu=>?_⟩
 ·have:=k2 i hi (by simpa using aj);rwa[l9]
 ·obtain⟨j,hj,rfl⟩:=qo.1 hu;have:=k3 j (by simpa using hj);rwa[l9]
theorem Jy(off:Nat):∀(vs:List Value) (k:Nat) (cs:Array Value),off+k+vs.length<=cs.size→
  ((vs.zipIdx k).foldl (fun cs (c,j)=>cs.setIfInBounds (off+j) c) cs).toList=cs.toList.take (off+k)++vs++cs.toList.drop (off+k+vs.length)
 |[],k,cs,_=>by simp
 |v::vs,k,cs,h=>by simp only[eZ]at h;simp only[List.zipIdx_cons,List.foldl_cons];rw[Jy off vs (k+1) (cs.setIfInBounds (off+k) v) (by simp;omega)];have:=Go.list_seg_step cs.toList (off+k) v vs (by simp;omega);simpa[Array.toList_setIfInBounds,vt,Nat.add_comm,Nat.add_left_comm]using this
theorem Jx(ax:eM g lb ev a)(place:Nat->Option (Nat×Nat)):∀(parts:List (Nat×Operand)) (ps:List (Nat×Nat×bm)) (cs:List AV) (vs:Array Value) (r:List AV),
  parts.length=ps.length->(∀k (h:k<parts.length) (h':k<ps.length),place parts[k].1=some (ps[k].1,ps[k].2.1)/\cm parts[k].2=some ps[k].2.2/\0<ps[k].2.1)→
  PW (VR g lb) cs vs.toList->(∀v∈vs.toList,v.oneCell'=true)->cF ev ps cs=some r→
  ∃ws:Array Value,Instr.fill place vs (parts.map fun(i,x)=>(i,a.eval x))=some ws/\PW (VR g lb) r ws.toList/\∀v∈ws.toList,v.oneCell'=true
 |[],[],cs,vs,r,_,_,hp,h1,hr=>by cases hr;exact⟨vs,rfl,hp,h1⟩
 |[],_::_,_,_,_,hl,_,_,_,_=>by simp at hl
 |_::_,[],_,_,_,hl,_,_,_,_=>by simp at hl
 |(i,x)::parts,(off,size,x')::ps,cs,vs,r,hl,hk,hp,h1,hr=>by
  obtain⟨k1,k2,k3⟩:=hk 0 (by simp) (by simp);simp only[me]at k1 k2 k3;simp only[cF]at hr;split at hr
  ·rename_i hc;obtain⟨er,hle⟩:=hc;obtain⟨q1,q2⟩:=HP (ax _ _ k2) (by omega);have bh:(a.eval x).cells.size=size:=by have:=q1.1;simp at this;omega
   have zX:vs.size=cs.length:=by have:=hp.1;simp at this;omega
   let sW:Array Value:=(a.eval x).cells.zipIdx.foldl (fun cs (c,j)=>cs.setIfInBounds (off+j) c) vs;have Cx:sW.toList=vs.toList.take off++(a.eval x).cells.toList++vs.toList.drop (off+(a.eval x).cells.toList.length):=by have h:=Jy off (a.eval x).cells.toList 0 vs (by simp only[vk,bh,zX];omega);simp only[ui]at h;rw[<-h];simp only[sW,<-ahG,ahH]
   have mV:PW (VR g lb) (eV cs off (ev x').cells) sW.toList:=by rw[Cx];unfold eV;have hlen:=q1.1;rw[hlen];exact((hp.take off).append q1).append (hp.drop _)
   have fF:∀v∈sW.toList,v.oneCell'=true:=by
    rw[Cx];intro v hv;rcases dE.1 hv with hv|hv
    ·rcases dE.1 hv with hv|hv
     ·exact h1 _ (pa hv)
     ·exact q2 _ hv
    ·exact h1 _ (qp hv)
   obtain⟨ws,e1,e2,e3⟩:=Jx ax place parts ps _ sW r (by simpa using hl) (fun k h h'=>by have:=hk (k+1) (by simpa using h) (by simpa using h');simpa using this) mV fF hr;refine⟨ws,?_,e2,e3⟩;simp only[ay,Instr.fill,k1];rw[if_neg (by simp[bh,zX];omega)];exact e1
  ·cases hr
theorem afy{fs:List Field}{m:List (Nat×Nat)}(h:places P fs=some m):(fs.mapM fun f=>do pure (f.offset,<-sizeOf f.type):Sem (List (Nat×Nat))).run P w= .ok m w∧
  ∀(k:Nat) (fd:Field),fs[k]?=some fd->∃i,P.info? fd.type=some i/\m[k]?=some (fd.offset,i.size):=by
 induction fs generalizing m with
 |nil=>cases h;exact⟨rfl,by simp⟩
 |cons f fs ih=>
  simp only[places]at h
  split at h
  ·rename_i i m' hi hm;cases h;obtain⟨k1,k2⟩:=ih hm;refine⟨?_,fun k fd hk=>?_⟩
   ·have hs:(sizeOf f.type).run P w= .ok i.size w:=by simp[sizeOf,typeInfo,hi]
    simp only[List.mapM_cons,Sem.run_bind,hs,Result.andThen_ok,Sem.run_pure,k1]
   ·cases k with
    |zero=>simp at hk;subst hk;exact⟨i,hi,by simp⟩
    |succ k=>simpa using k2 k fd (by simpa using hk)
  ·cases h
theorem V0{fields:Array Field}{parts:List (Nat×Operand)}{ps:List (Nat×Nat×bm)}(h:y6 P fields parts=some ps):
  parts.length=ps.length/\∀k (h:k<parts.length) (h':k<ps.length),(∃fd,fields[parts[k].1]?=some fd/\fd.offset=ps[k].1/\kI P fd.type=some ps[k].2.1)/\cm parts[k].2=some ps[k].2.2:=by
 induction parts generalizing ps with
 |nil=>cases h;exact⟨rfl,fun k h=>by simp at h⟩
 |cons p parts ih=>
  obtain⟨i,x⟩:=p
  simp only[y6]at h;split at h
  ·rename_i fd x' l' h1 h2 h3;split at h
   ·rename_i n hn;cases h;obtain⟨e1,e2⟩:=ih h3;refine⟨by simp[e1],fun k hk da=>?_⟩;cases k with
    |zero=>exact⟨⟨fd,h1,rfl,hn⟩,h2⟩
    |succ k=>exact e2 k (by simpa using hk) (by simpa using da)
   ·cases h
  ·cases h
theorem VZ{sz:Nat}{parts:List (Nat×Operand)}{ps:List (Nat×Nat×bm)}(h:y5 sz parts=some ps):
  parts.length=ps.length/\∀k (h:k<parts.length) (h':k<ps.length),ps[k].1=parts[k].1*sz/\ps[k].2.1=sz/\cm parts[k].2=some ps[k].2.2:=by
 induction parts generalizing ps with
 |nil=>cases h;exact⟨rfl,fun k h=>by simp at h⟩
 |cons p parts ih=>
  obtain⟨i,x⟩:=p
  simp only[y5]at h;split at h
  ·rename_i x' l' h2 h3;cases h;obtain⟨e1,e2⟩:=ih h3;refine⟨by simp[e1],fun k hk da=>?_⟩;cases k with
   |zero=>exact⟨rfl,rfl,h2⟩
   |succ k=>exact e2 k (by simpa using hk) (by simpa using da)
  ·cases h
theorem Nk{r:List AV}{ws:Array Value}(h:PW (VR g lb) r ws.toList)(h1:∀v∈ws.toList,v.oneCell'=true):VR g lb (.agg r) (.agg ws):=
 .agg _ _ _ (by simpa using h.1.symm) (fun i hi=>h1 _ (by simp)) fun i hi aj=>by have:=h.2 i hi (by simpa using aj);rwa[l9]at this
theorem Tq{r:List AV}{ws:Array Value}(h:VR g lb (.agg r) (.agg ws)):PW (VR g lb) r ws.toList/\∀v∈ws.toList,v.oneCell'=true:=by
 cases h with
 |agg _ _ _ hs h1 hv=>
  refine⟨⟨by simpa using hs.symm,fun i hi aj=>by rw[l9];exact hv i hi _⟩,fun v mX=>?_⟩
  obtain⟨j,hj,rfl⟩:=qo.1 mX;rw[l9];exact h1 j _
theorem run_build(ax:eM g lb ev a){t:TypeId}{parts:Array (Nat×Operand)}{z:List AV}{ps:List (Nat×Nat×bm)}{r:List AV}(hz:ua P t=some z)
  (bA:(∃fields m,P.underlying t=some (.struct fields)/\places P fields.toList=some m/\y6 P fields parts.toList=some ps)∨
   (∃n e sz,P.underlying t=some (.array n e)/\kI P e=some sz/\y5 sz parts.toList=some ps))
  (hr:cF ev ps z=some r):∃x,(Instr.build t (parts.map fun(i,x)=>(i,a.eval x))).run P w= .ok x w/\VR g lb (.agg r) x:=by
 obtain⟨zv,i,hi,oV,pW,-,-,-,cU,h1⟩:=AD (P:=P) (g:=g) (lb:=lb) (w:=w) hz;have xU:(parts.map fun(i,x)=>(i,a.eval x)).toList=parts.toList.map fun(i,x)=>(i,a.eval x):=by simp
 rcases bA with⟨fields,m,hu,bW,hc⟩|⟨n,e,sz,hu,bh,hc⟩
 ·obtain⟨e1,e2⟩:=V0 hc;obtain⟨p1,p2⟩:=afy (w:=w) bW;obtain⟨ws,k1,k2,k3⟩:=Jx ax (fun i=>m.toArray[i]?) parts.toList ps z zv.cells r e1 (fun k h h'=>by
   obtain⟨⟨fd,q1,q2,q3⟩,q4⟩:=e2 k h h'
   obtain⟨i',q5,q6⟩:=p2 parts.toList[k].1 fd (by simpa using q1);unfold kI at q3;rw[q5]at q3;dsimp only at q3;split at q3
   ·rename_i h0;simp only[aZ]at q3;refine⟨by simp only[List.getElem?_toArray,q6,q2,q3],q4,by rw[<-q3];exact h0⟩
   ·cases q3) cU h1 hr
  refine⟨.agg ws,?_,Nk k2 k3⟩;have ZP:(fields.mapM fun f=>do pure (f.offset,<-sizeOf f.type):Sem (Array (Nat×Nat))).run P w= .ok m.toArray w:=by rw[Array.mapM_eq_mapM_toList];simp only[Sem.run_map,p1,Result.andThen_ok]
  simp only[Instr.build,Sem.run_bind,pW,Result.andThen_ok,run_underlying hu,ZP,xU,k1];rfl
 ·obtain⟨e1,e2⟩:=VZ hc;obtain⟨s1,s2,-⟩:=oA (P:=P) (w:=w) bh;obtain⟨ws,k1,k2,k3⟩:=Jx ax (fun i=>some (i*sz,sz)) parts.toList ps z zv.cells r e1 (fun k h h'=>by
   obtain⟨q1,q2,q3⟩:=e2 k h h'
   exact⟨by rw[q1,q2],q3,by rw[q2];exact s2⟩) cU h1 hr
  refine⟨.agg ws,?_,Nk k2 k3⟩;simp only[Instr.build,Sem.run_bind,pW,Result.andThen_ok,run_underlying hu,s1,xU,k1];rfl
end
section
variable{P:Program}{base:Nat}{LC:eN}{g:Gh}{lb:LB}{own:OW}{loc:Nat->Option (Nat×κ)}{mem:Mem}{w:World}{bJ:Nat->Bool}{aF:cx}
variable{ev:bm->AV}{a:Act}{o:Oper}{ao:AO}{v:AV}{u:kZ}{m':Mem}
theorem eE.pure(hm:a8 g own LC mem w)(hl:cA g lb own loc w)(ho:bV base own w){x:Value}(h1:(execOp a.eval o).run P w= .ok (.value x) w)(h2:VR g lb v x):
  eE P base LC g lb own loc w a o v none mem:=⟨x,w,.inl h1,iO.pure hm hl ho h2⟩
theorem SZ(ax:eM g lb ev a)(hm:a8 g own LC mem w)(hl:cA g lb own loc w)(ho:bV base own w){x:Operand}(Ω:o.op= .move x\/o.op= .assign x)
  (hc:bE P bJ o=some ao) (hr:aC ev loc mem aF o.dst ao=some (v,u,m')):eE P base LC g lb own loc w a o v u m':=by
 have hx:∃x',cm x=some x'/\ao= .mv x':=by rcases Ω with Ω|Ω<;>simp only[bE,Ω,bH]at hc<;>(obtain⟨x',h1,rfl⟩:=hc;exact⟨x',h1,rfl⟩)
 obtain⟨x',gn,rfl⟩:=hx;simp only[aC,aZ,aN]at hr;obtain⟨rfl,rfl,rfl⟩:=hr;exact .pure hm hl ho (by rcases Ω with Ω|Ω<;>simp only[execOp,Ω]<;>rfl) (ax _ _ gn)
theorem aec(ax:eM g lb ev a)(hm:a8 g own LC mem w)(hl:cA g lb own loc w)(ho:bV base own w){x y z:Operand}(Ω:o.op= .pick x y z)
  (hc:bE P bJ o=some ao) (hr:aC ev loc mem aF o.dst ao=some (v,u,m')):eE P base LC g lb own loc w a o v u m':=by
 simp only[bE,Ω]at hc;split at hc
 ·rename_i x' y' z' h1 h2 h3;cases hc;simp only[aC]at hr;split at hr
  ·rename_i t ht;simp only[aZ,aN]at hr;obtain⟨rfl,rfl,rfl⟩:=hr;have k1:=ax _ _ h1;rw[ht]at k1;cases hx:a.eval x<;>rw[hx]at k1<;>cases k1;refine .pure (x:=if t then a.eval y else a.eval z) hm hl ho ?_ ?_
   ·simp only[execOp,Ω,hx];cases t<;>rfl
   ·cases t
    ·exact ax _ _ h3
    ·exact ax _ _ h2
  ·cases hr
 ·cases hc
theorem adT(ax:eM g lb ev a)(hm:a8 g own LC mem w)(hl:cA g lb own loc w)(ho:bV base own w){t:TypeId}{parts:Array (Nat×Operand)}(Ω:o.op= .build t parts)
  (hc:bE P bJ o=some ao) (hr:aC ev loc mem aF o.dst ao=some (v,u,m')):eE P base LC g lb own loc w a o v u m':=by
 have key:∃z ps,ao= .build z ps/\ua P t=some z/\((∃fields m,P.underlying t=some (.struct fields)/\places P fields.toList=some m/\y6 P fields parts.toList=some ps)∨
   (∃n e sz,P.underlying t=some (.array n e)/\kI P e=some sz/\y5 sz parts.toList=some ps)):=by
  simp only[bE,Ω]at hc;split at hc
  ·rename_i z fields hz hu;split at hc
   ·rename_i m bW;simp only[bH]at hc;obtain⟨ps,h1,rfl⟩:=hc;exact⟨z,ps,rfl,hz,.inl ⟨fields,m,hu,bW,h1⟩⟩
   ·cases hc
  ·rename_i z n e hz hu;split at hc
   ·rename_i sz bh;simp only[bH]at hc;obtain⟨ps,h1,rfl⟩:=hc;exact⟨z,ps,rfl,hz,.inr ⟨n,e,sz,hu,bh,h1⟩⟩
   ·cases hc
  ·cases hc
 obtain⟨z,ps,rfl,hz,bA⟩:=key;simp only[aC,bH,aN]at hr;obtain⟨r,hr,rfl,rfl,rfl⟩:=hr;obtain⟨x,h1,h2⟩:=run_build (w:=w) ax hz bA hr;exact .pure hm hl ho (by simp only[execOp,Ω,Sem.run_bind,h1,Result.andThen_ok];rfl) h2
theorem VR.Xj{f f':Fn}{l m:List AV}{x y:Array Value}(h:VR g lb (.fn f l m) (.func f' x y))(hn:¬rA g.mb f f'):False:=by cases h;rename_i hy _ _;exact hn (by assumption)
theorem aea(ax:eM g lb ev a)(hm:a8 g own LC mem w)(hl:cA g lb own loc w)(ho:bV base own w){x:Operand}(Ω:o.op= .nilCheck x)
  (hc:bE P bJ o=some ao) (hr:aC ev loc mem aF o.dst ao=some (v,u,m')):eE P base LC g lb own loc w a o v u m':=by
 simp only[bE,Ω,bH]at hc;obtain⟨x',h1,rfl⟩:=hc;have k1:=ax _ _ h1;have key:v=ev x'/\u=none/\m'=mem/\(execOp a.eval o).run P w= .ok (.value (a.eval x)) w:=by
  simp only[aC]at hr;split at hr<;>first|(cases hr;done)|skip
  all_goals
   rename_i he;rw[he]at k1;simp only[aZ,aN]at hr;obtain⟨rfl,rfl,rfl⟩:=hr;refine⟨he.symm,rfl,rfl,?_⟩;cases hx:a.eval x<;>rw[hx]at k1<;>first
    |(cases k1;done)
    |(cases k1;simp only[execOp,Ω,hx];rfl)
    |(rename_i f' _ _;cases f'<;>first|(cases k1;simp only[execOp,Ω,hx];rfl)|(exact(VR.Xj k1 (by simp[rA])).elim))
 obtain⟨rfl,rfl,rfl,h2⟩:=key;exact .pure hm hl ho h2 k1
theorem MG(op:BinOp)(t:TypeId)(x y:Operand){xv yv:Value}(h:(∀l,xv≠ .agg l)/\xv≠ .nilIface):(eqGuard op t x y xv yv).run P w= .ok () w:=by
 cases xv<;>first|(exact absurd rfl (h.1 _))|(exact absurd rfl h.2)|skip
 all_goals cases op<;>rfl
theorem SU(ax:eM g lb ev a)(hm:a8 g own LC mem w)(hl:cA g lb own loc w)(ho:bV base own w){op:BinOp}{t ty:TypeId}{x y:Operand}(Ω:o.op= .binOp op t x y ty)
  {x' y':bm} (hx:cm x=some x') (hy:cm y=some y')
  (hr:aC ev loc mem aF o.dst (.bin op x' y')=some (v,u,m')):eE P base LC g lb own loc w a o v u m':=by
 simp only[aC,bH,aN]at hr;obtain⟨r,hr,rfl,rfl,rfl⟩:=hr;have k1:=ax _ _ hx;have k2:=ax _ _ hy;obtain⟨z,h1,h2⟩:=UI (P:=P) (w:=w) (t:=t) k1 k2 hr;refine .pure hm hl ho ?_ h2;have hg:(∀l,a.eval x≠ .agg l)/\a.eval x≠ .nilIface:=by
  unfold gy at hr;split at hr<;>first|(cases hr;done)|skip
  all_goals
   rename_i he _;rw[he]at k1;cases hz:a.eval x<;>rw[hz]at k1<;>cases k1<;>simp
 simp only[execOp,Ω,Sem.run_bind,MG op t x y hg,h1,Result.andThen_ok];rfl
theorem SV(ax:eM g lb ev a)(hm:a8 g own LC mem w)(hl:cA g lb own loc w)(ho:bV base own w){op:BinOp}{t ty:TypeId}{x y:Operand}(Ω:o.op= .binOp op t x y ty)
  {x' y':bm} (hx:cm x=some x') (hy:cm y=some y') (hu:P.underlying t=some .bool) {neg:Bool} (hn:op=if neg then .neq else .eql)
  (hr:aC ev loc mem aF o.dst (.Bx neg x' y')=some (v,u,m')):eE P base LC g lb own loc w a o v u m':=by
 simp only[aC]at hr;split at hr
 ·rename_i b c e1 e2;simp only[aZ,aN]at hr;obtain⟨rfl,rfl,rfl⟩:=hr;have k1:=ax _ _ hx;have k2:=ax _ _ hy;rw[e1]at k1;rw[e2]at k2;cases bL:a.eval x<;>rw[bL]at k1<;>cases k1;cases uT:a.eval y<;>rw[uT]at k2<;>cases k2;have he:(Op.equal t (.bool b) (.bool c)).run P w= .ok (b==c) w:=run_equalIn_bool 9999 hu b c;refine .pure (x:= .bool (if neg then !(b==c)else b==c)) hm hl ho ?_ (.bool _ _);cases neg<;>simp only[gY,if_false,if_true]at hn<;>subst hn
  ·simp only[execOp,Ω,bL,uT,Sem.run_bind,MG .eql t x y (xv:= .bool b) (yv:= .bool c) (by simp),Result.andThen_ok,binOp,he];rfl
  ·simp only[execOp,Ω,bL,uT,Sem.run_bind,MG .neq t x y (xv:= .bool b) (yv:= .bool c) (by simp),Result.andThen_ok,binOp,he];rfl
 ·cases hr
theorem adz{k:NK}{y:Operand}{t:TypeId}(h:Mb k y=true)(ht:∀v,(match k with
  | .ptr=>v=Value.pointer none
  | .slice=>v= .slice none 0 0
  | .fn=>v= .nilFunc
  | .iface=>v= .nilIface
  | .map=>v= .map none)->k.fits P t v):∃v,y= .const v/\k.fits P t v/\(∀l,v≠ .agg l)/\(v= .nilIface->True)/\v.oneCell'=true:=by
 unfold Mb at h;split at h<;>first|(cases h;done)|exact⟨_,rfl,ht _ rfl,by simp,fun _=>trivial,rfl⟩
theorem afx(op:BinOp)(t:TypeId)(x:Operand){xv v:Value}(h:∀l,v≠ .agg l):(eqGuard op t x (.const v) xv v).run P w= .ok () w:=by
 cases op<;>first|rfl|skip
 all_goals
  unfold eqGuard;cases xv<;>cases v<;>first|rfl|exact absurd rfl (h _)|(cases x<;>rfl)
theorem CW(ax:eM g lb ev a)(hm:a8 g own LC mem w)(hl:cA g lb own loc w)(ho:bV base own w){op:BinOp}{t ty:TypeId}{x y:Operand}(Ω:o.op= .binOp op t x y ty)
  {x':bm} (hx:cm x=some x') {k:NK} (hc:um k op x' y=some ao) (ht:∀v,(match k with
  | .ptr=>v=Value.pointer none
  | .slice=>v= .slice none 0 0
  | .fn=>v= .nilFunc
  | .iface=>v= .nilIface
  | .map=>v= .map none)->k.fits P t v)
  (hr:aC ev loc mem aF o.dst ao=some (v,u,m')):eE P base LC g lb own loc w a o v u m':=by
 unfold um at hc;split at hc
 ·rename_i hn;obtain⟨nv,rfl,hf,lO,-,h1⟩:=adz (P:=P) (t:=t) hn ht;have k1:=ax _ _ hx;have QL:a.eval (.const nv)=nv:=rfl;obtain⟨xv,bL⟩:∃xv,a.eval x=xv:=⟨_,rfl⟩;rw[bL]at k1;have hg:=fun op=>afx (P:=P) (w:=w) op t x (xv:=xv) lO;have Qz:∀r,isNil k (ev x')=some r->(binOp .eql t xv nv).run P w= .ok (.bool r) w/\(binOp .neq t xv nv).run P w= .ok (.bool (!r)) w:=by
   intro r hr;have he:=aaE (P:=P) (w:=w) k1 hr hf;unfold isNil at hr;split at hr<;>first|(cases hr;done)|skip
   all_goals
    rename_i dI;rw[dI]at k1;cases k1<;>cases nv<;>first
     |(exact absurd rfl (lO _))
     |(cases h1;done)
     |(constructor<;>(simp only[binOp,Sem.run_bind,he,Result.andThen_ok];rfl))
     |(exfalso;obtain⟨_,hh⟩:=hf;cases hh;done)
  split at hc
  ·cases hc;simp only[aC,bH,aN,gY,if_false]at hr;obtain⟨r,hr,rfl,rfl,rfl⟩:=hr;refine .pure (x:= .bool r) hm hl ho ?_ (.bool _ _);simp only[execOp,Ω,bL,QL,Sem.run_bind,hg,Result.andThen_ok,(Qz r hr).1];rfl
  ·cases hc;simp only[aC,bH,aN,if_true]at hr;obtain⟨r,hr,rfl,rfl,rfl⟩:=hr;refine .pure (x:= .bool (!r)) hm hl ho ?_ (.bool _ _);simp only[execOp,Ω,bL,QL,Sem.run_bind,hg,Result.andThen_ok,(Qz r hr).2];rfl
  ·cases hc
 ·cases hc
theorem aeh(ax:eM g lb ev a)(hm:a8 g own LC mem w)(hl:cA g lb own loc w)(ho:bV base own w){op:UnOp}{t:TypeId}{x:Operand}(Ω:o.op= .unOp op t x)
  (hc:bE P bJ o=some ao) (hr:aC ev loc mem aF o.dst ao=some (v,u,m')):eE P base LC g lb own loc w a o v u m':=by
 simp only[bE,Ω,bH]at hc;obtain⟨x',h1,rfl⟩:=hc;simp only[aC,bH,aN]at hr;obtain⟨r,hr,rfl,rfl,rfl⟩:=hr;obtain⟨z,k1,k2⟩:=UL (P:=P) (w:=w) (ax _ _ h1) hr;exact .pure hm hl ho (by simp only[execOp,Ω,Sem.run_bind,k1,Result.andThen_ok];rfl) k2
theorem adV(ax:eM g lb ev a)(hm:a8 g own LC mem w)(hl:cA g lb own loc w)(ho:bV base own w){s d:TypeId}{x:Operand}(Ω:o.op= .convert s d x)
  (hc:bE P bJ o=some ao) (hr:aC ev loc mem aF o.dst ao=some (v,u,m')):eE P base LC g lb own loc w a o v u m':=by
 simp only[bE,Ω]at hc;split at hc
 ·rename_i ds k x' hs hd hx;cases hc;simp only[aC,bH,aN]at hr;obtain⟨r,hr,rfl,rfl,rfl⟩:=hr;unfold lf at hr;split at hr
  ·rename_i he;cases hr;rename_i k' n hk;cases hk;have k1:=ax _ _ hx;rw[he]at k1;cases bL:a.eval x<;>rw[bL]at k1<;>cases k1;exact .pure hm hl ho (by simp only[execOp,Ω,bL,Sem.run_bind,convert,run_underlying hs,run_underlying hd,Result.andThen_ok];rfl) (.int _ _ _)
  ·rename_i h _;cases h
  ·rename_i h _;cases h
  ·cases hr
 ·rename_i x' hs hd hx;cases hc;simp only[aC,bH,aN]at hr;obtain⟨r,hr,rfl,rfl,rfl⟩:=hr;unfold lf at hr;split at hr
  ·rename_i h _;cases h
  ·rename_i he;cases hr;have k1:=ax _ _ hx;rw[he]at k1;cases bL:a.eval x<;>rw[bL]at k1<;>cases k1;rename_i hb;exact .pure hm hl ho (by simp only[execOp,Ω,bL,Sem.run_bind,convert,run_underlying hs,run_underlying hd,Result.andThen_ok];rfl) (.str _ _ _ hb)
  ·rename_i h _;cases h
  ·cases hr
 ·rename_i k x' hs hd hx;cases hc;simp only[aC,bH,aN]at hr;obtain⟨r,hr,rfl,rfl,rfl⟩:=hr;unfold lf at hr;split at hr
  ·rename_i h _;cases h
  ·rename_i h _;cases h
  ·rename_i he;cases hr;have k1:=ax _ _ hx;rw[he]at k1;cases bL:a.eval x<;>rw[bL]at k1<;>cases k1;exact .pure hm hl ho (by simp only[execOp,Ω,bL,Sem.run_bind,convert,run_underlying hs,run_underlying hd,Result.andThen_ok];rfl) (.str _ _ _ rfl)
  ·cases hr
 ·cases hc
theorem ad9(ax:eM g lb ev a)(hm:a8 g own LC mem w)(hl:cA g lb own loc w)(ho:bV base own w){t:TypeId}{x:Operand}(Ω:o.op= .makeInterface t x)
  (hc:bE P bJ o=some ao) (hr:aC ev loc mem aF o.dst ao=some (v,u,m')):eE P base LC g lb own loc w a o v u m':=by
 simp only[bE,Ω]at hc;split at hc
 ·cases hc
 ·rename_i d x' ZV hu hx;cases hc;simp only[aC,aZ,aN]at hr;obtain⟨rfl,rfl,rfl⟩:=hr;refine .pure hm hl ho (x:= .iface t (a.eval x)) ?_ (.iface _ _ _ _ (ax _ _ hx));have YC:P.concrete t=true:=by unfold Program.concrete;rw[hu];cases d<;>first|rfl|exact absurd rfl (ZV _)
  simp only[execOp,Ω,Sem.run_bind,run_makeInterface w t _ YC,Result.andThen_ok];rfl
 ·cases hc
theorem ad8(ax:eM g lb ev a)(hm:a8 g own LC mem w)(hl:cA g lb own loc w)(ho:bV base own w){f:Fn}{x y:Array Operand}(Ω:o.op= .makeFunc f x y)
  (hc:bE P bJ o=some ao) (hr:aC ev loc mem aF o.dst ao=some (v,u,m')):eE P base LC g lb own loc w a o v u m':=by
 cases f<;>simp only[bE,Ω]at hc<;>first|(cases hc;done)|skip
 rename_i f;split at hc
 ·rename_i x' y' hx hy;cases hc;simp only[aC,aZ,aN]at hr;obtain⟨rfl,rfl,rfl⟩:=hr;have k1:=Ek ax hx;have k2:=Ek ax hy;refine .pure hm hl ho (x:= .func (.func f) (x.map a.eval) (y.map a.eval)) (by simp only[execOp,Ω];rfl) ?_;refine .fn _ _ _ _ _ _ _ (by simpa using k1.1.symm) (by simpa using k2.1.symm) rfl (fun i hi aj=>?_) (fun i hi aj=>?_)
  ·have:=k1.2 i hi (by simpa using aj);simpa using this
  ·have:=k2.2 i hi (by simpa using aj);simpa using this
 ·cases hc
theorem Uj{s f off:Nat}{t:TypeId}(h:H9 P s f=some (off,t)):∃fields fd,P.underlying s=some (.struct fields)/\fields[f]?=some fd/\fd.offset=off/\fd.type=t:=by
 unfold H9 at h;split at h
 ·rename_i fields hu;split at h
  ·rename_i fd hf;simp only[aZ,aN]at h;exact⟨fields,fd,hu,hf,h.1,h.2⟩
  ·cases h
 ·cases h
theorem adZ(ax:eM g lb ev a)(hm:a8 g own LC mem w)(hl:cA g lb own loc w)(ho:bV base own w){s:TypeId}{x:Operand}{f:Nat}(Ω:o.op= .fieldAddr s x f)
  (hc:bE P bJ o=some ao) (hr:aC ev loc mem aF o.dst ao=some (v,u,m')):eE P base LC g lb own loc w a o v u m':=by
 simp only[bE,Ω]at hc;split at hc
 ·rename_i off t x' hf hx;split at hc
  ·rename_i n hn;cases hc;simp only[aC,bH,aN]at hr;obtain⟨r,hr,rfl,rfl,rfl⟩:=hr;obtain⟨ad,k1,k2⟩:=S_ (ax _ _ hx) hr;obtain⟨fields,fd,q1,q2,rfl,rfl⟩:=Uj hf;obtain⟨s1,s2,-⟩:=oA (P:=P) (w:=w) hn;refine .pure hm hl ho ?_ k2;simp only[execOp,Ω,k1,Sem.run_bind,Instr.fieldAt,run_underlying q1,Result.andThen_ok,q2,Instr.sureAddr,Sem.run_pure,fieldPlace,s1];rw[if_neg (by omega)];rfl
  ·cases hc
 ·cases hc
theorem ad0(ax:eM g lb ev a)(hm:a8 g own LC mem w)(hl:cA g lb own loc w)(ho:bV base own w){s:TypeId}{x:Operand}{f:Nat}(Ω:o.op= .field s x f)
  (hc:bE P bJ o=some ao) (hr:aC ev loc mem aF o.dst ao=some (v,u,m')):eE P base LC g lb own loc w a o v u m':=by
 simp only[bE,Ω]at hc;split at hc
 ·rename_i off t x' hf hx;split at hc
  ·rename_i n ag hn lO;cases hc;simp only[aC]at hr;split at hr
   ·rename_i l he;split at hr
    ·rename_i hle;simp only[bH,aN]at hr;obtain⟨r,hr,rfl,rfl,rfl⟩:=hr;have k1:=ax _ _ hx;rw[he]at k1;obtain⟨fields,fd,q1,q2,rfl,rfl⟩:=Uj hf;cases bL:a.eval x<;>rw[bL]at k1<;>(try cases k1;done);obtain⟨z,e1,e2⟩:=S' (P:=P) (w:=w) k1 hle (H8 lO) (oA hn).1 hr;refine .pure hm hl ho ?_ e2;simp only[execOp,Ω,bL,Sem.run_bind,Instr.field,run_underlying q1,Result.andThen_ok,q2,asAgg,Sem.run_pure,e1]
    ·cases hr
   ·cases hr
  ·cases hc
 ·cases hc
end
section
variable{P:Program}{base:Nat}{LC:eN}{g:Gh}{lb:LB}{own:OW}{loc:Nat->Option (Nat×κ)}{mem:Mem}{w:World}{bJ:Nat->Bool}{aF:cx}
variable{ev:bm->AV}{a:Act}{o:Oper}{ao:AO}{v:AV}{u:kZ}{m':Mem}
theorem ub{k:IntKind}{n:Int}{x:Value}(h:VR g lb (.int k n) x):x= .int k n:=by cases h;rfl
theorem ad1(ax:eM g lb ev a)(hm:a8 g own LC mem w)(hl:cA g lb own loc w)(ho:bV base own w){t:TypeId}{x i:Operand}(Ω:o.op= .indexAddr t x i)
  (hc:bE P bJ o=some ao) (hr:aC ev loc mem aF o.dst ao=some (v,u,m')):eE P base LC g lb own loc w a o v u m':=by
 simp only[bE,Ω]at hc;split at hc
 ·rename_i e x' i' hu hx hi;simp only[bH]at hc;obtain⟨sz,bh,rfl⟩:=hc;simp only[aC]at hr;split at hr
  ·rename_i c l k n e1 e2;split at hr
   ·rename_i hb;split at hr
    ·rename_i el zL;split at hr
     ·rename_i Ke;simp only[aZ,aN]at hr;obtain⟨rfl,rfl,rfl⟩:=hr;have k1:=ax _ _ hx;have k2:=ax _ _ hi;rw[e1]at k1;rw[e2]at k2;obtain⟨s1,s2,-⟩:=oA (P:=P) (w:=w) bh;have ak:l≠[]:=by rintro rfl;simp at hb;omega
      cases bL:a.eval x<;>rw[bL]at k1<;>(try(cases k1;done));cases k1 with
      |iJ=>exact absurd rfl ak
      |gX=>exact absurd rfl ak
      |list _ _ _ b off eW nn cap xs hn db iS Cv cu hv=>
       have ρ:n.toNat<l.length:=by omega
       have tF:l[n.toNat]=el:=by rw[dr ρ]at zL;exact Option.some.inj zL
       have aao:eW=sz:=by rw[<-Cv _ (cL ρ),tF,Ke]
       subst aao;refine .pure hm hl ho (x:= .pointer (some ⟨b,off+n.toNat*eW,none⟩)) ?_ ?_
       ·simp only[execOp,Ω,bL,ub k2,Sem.run_bind,Instr.indexAt,asIntOf,Sem.run_pure,Result.andThen_ok,run_underlying hu];rw[if_pos (by rw[<-hn];exact hb)];simp only[Sem.run_bind,s1,Result.andThen_ok,Sem.run_pure,Addr.add_mid]
       ·refine .ref _ _ b (off+n.toNat*eW) (fun j=>xs n.toNat j) (fun j hj=>?_) (fun j hj=>?_)
        ·have:=cu n.toNat (by omega) j (by omega);rwa[vt]
        ·have:=hv n.toNat ρ j (by rw[tF];exact hj);simpa only[tF]using this
     ·cases hr
    ·cases hr
   ·cases hr
  ·rename_i id off m cp k n e1 e2;split at hr
   ·rename_i hb;simp only[aZ,aN]at hr;obtain⟨rfl,rfl,rfl⟩:=hr;have k1:=ax _ _ hx;have k2:=ax _ _ hi;rw[e1]at k1;rw[e2]at k2;obtain⟨s1,s2,-⟩:=oA (P:=P) (w:=w) bh;cases bL:a.eval x<;>rw[bL]at k1<;>(try(cases k1;done));cases k1 with
    |sl _ _ _ _ _ _ b hc bf=>
     refine .pure hm hl ho (x:= .pointer (some ⟨b,off+n.toNat*sz,none⟩)) ?_ (.ν _ _ _ b bf)
     simp only[execOp,Ω,bL,ub k2,Sem.run_bind,Instr.indexAt,asIntOf,Sem.run_pure,Result.andThen_ok,run_underlying hu];rw[if_pos hb];simp only[Sem.run_bind,s1,Result.andThen_ok,Sem.run_pure,Addr.add_mid]
   ·cases hr
  ·cases hr
 ·rename_i len e x' i' hu hx hi;simp only[bH]at hc;obtain⟨sz,bh,rfl⟩:=hc;simp only[aC]at hr;split at hr
  ·rename_i k n e2;split at hr
   ·rename_i hb;simp only[bH,aN]at hr;obtain⟨r,hr,rfl,rfl,rfl⟩:=hr;have k2:=ax _ _ hi;rw[e2]at k2;obtain⟨ad,k1,k3⟩:=S_ (ax _ _ hx) hr;obtain⟨s1,s2,-⟩:=oA (P:=P) (w:=w) bh;refine .pure hm hl ho ?_ k3;simp only[execOp,Ω,k1,ub k2,Sem.run_bind,Instr.indexAt,asIntOf,Sem.run_pure,Result.andThen_ok,run_underlying hu,Instr.sureAddr];rw[if_pos hb];simp only[Sem.run_bind,s1,Result.andThen_ok,Sem.run_pure]
   ·cases hr
  ·cases hr
 ·cases hc
theorem ad3(ax:eM g lb ev a)(hm:a8 g own LC mem w)(hl:cA g lb own loc w)(ho:bV base own w){t:TypeId}{x i:Operand}(Ω:o.op= .index t x i)
  (hc:bE P bJ o=some ao) (hr:aC ev loc mem aF o.dst ao=some (v,u,m')):eE P base LC g lb own loc w a o v u m':=by
 simp only[bE,Ω]at hc;split at hc
 ·rename_i len e x' i' hu hx hi;split at hc
  ·rename_i sz ag bh lO;cases hc;simp only[aC]at hr;split at hr
   ·rename_i l k n e1 e2;split at hr
    ·rename_i hb;obtain⟨bN,cQ,mS⟩:=hb;simp only[bH,aN]at hr;obtain⟨r,hr,rfl,rfl,rfl⟩:=hr;have k1:=ax _ _ hx;have k2:=ax _ _ hi;rw[e1]at k1;rw[e2]at k2;obtain⟨s1,s2,-⟩:=oA (P:=P) (w:=w) bh;cases bL:a.eval x<;>rw[bL]at k1<;>(try(cases k1;done));have hle:n.toNat*sz+sz<=l.length:=by rw[mS];have:(n.toNat+1)*sz<=len*sz:=rG _ (by omega);rw[kM]at this;omega
     obtain⟨z,q1,q2⟩:=S' (P:=P) (w:=w) k1 hle (H8 lO) s1 hr;refine .pure hm hl ho ?_ q2;simp only[execOp,Ω,bL,ub k2,Sem.run_bind,Instr.index,asIntOf,Sem.run_pure,Result.andThen_ok,run_underlying hu];rw[if_pos ⟨bN,cQ⟩];simp only[Sem.run_bind,s1,Result.andThen_ok,q1]
    ·cases hr
   ·cases hr
  ·cases hc
 ·rename_i x' i' hu hx hi;cases hc;simp only[aC]at hr;split at hr
  ·rename_i s k n e1 e2;split at hr
   ·rename_i hb;simp only[bH,aN]at hr;obtain⟨r,hr,rfl,rfl,rfl⟩:=hr;have k1:=ax _ _ hx;have k2:=ax _ _ hi;rw[e1]at k1;rw[e2]at k2;cases bL:a.eval x<;>rw[bL]at k1<;>cases k1;rename_i bs eU;obtain⟨c,Y6,pA⟩:∃c:UInt8,bs[n.toNat]?=some c/\c.toNat=r:=by
     rw[<-eU]at hr;simp only[List.getElem?_map,bH]at hr;obtain⟨c,hc,rfl⟩:=hr;have ρ:=(kg.1 hc).1;have dq:n.toNat<bs.size:=by simpa using ρ
     refine⟨c,?_,rfl⟩;have h1:bs[n.toNat]?=some (bs[n.toNat]'dq):=by simp[getElem?_pos,dq]
     rw[h1];have h2:bs.data.toList[n.toNat]?=some (bs[n.toNat]'dq):=by rw[dr ρ];rfl
     rw[h2]at hc;exact hc
    refine .pure hm hl ho (x:= .int .u8 (Int.ofNat r)) ?_ (.int _ _ _);simp only[execOp,Ω,bL,ub k2,Sem.run_bind,Instr.index,asIntOf,Sem.run_pure,Result.andThen_ok,run_underlying hu,if_pos hb,Y6,pA];rfl
   ·cases hr
  ·cases hr
 ·cases hc
theorem A8(ax:eM g lb ev a){x:Option Operand}{x':Option bm}(h:uo x=some x'){top D_ r:Nat}(hb:bound ev top x' D_=some r):
  (x=none/\r=D_)\/(∃y k n,x=some y/\a.eval y= .int k n/\0<=n/\n<=top/\r=n.toNat):=by
 cases x with
 |none=>cases h;cases hb;exact .inl ⟨rfl,rfl⟩
 |some y=>
  simp only[uo,bH]at h
  obtain⟨y',hy,rfl⟩:=h;simp only[bound]at hb;split at hb
  ·rename_i k n he;split at hb
   ·rename_i hc;cases hb;have:=ax _ _ hy;rw[he]at this;exact .inr ⟨y,k,n,rfl,ub this,hc.1,hc.2,rfl⟩
   ·cases hb
  ·cases hb
theorem run_sliceBound{k:IntKind}{n:Int}{top:Nat}{code:BoundsCode}(h0:0<=n)(h1:n<=top):(Instr.sliceBound (.int k n) top code).run P w= .ok n.toNat w:=by simp only[Instr.sliceBound,asIntOf,Sem.run_bind,Sem.run_pure,Result.andThen_ok];rw[if_pos ⟨h0,h1⟩];rfl
theorem aee(ax:eM g lb ev a)(hm:a8 g own LC mem w)(hl:cA g lb own loc w)(ho:bV base own w){t:TypeId}{x:Operand}{lo hi mx:Option Operand}(Ω:o.op= .slice t x lo hi mx)
  (hc:bE P bJ o=some ao) (hr:aC ev loc mem aF o.dst ao=some (v,u,m')):eE P base LC g lb own loc w a o v u m':=by
 simp only[bE,Ω]at hc;split at hc
 ·rename_i e x' Su aj L9 hu hx fz xM lU;split at hc
  ·cases hc
  ·rename_i Q4;simp only[bH]at hc;obtain⟨sz,bh,rfl⟩:=hc;obtain⟨s1,s2,-⟩:=oA (P:=P) (w:=w) bh;simp only[aC]at hr;split at hr
   ·rename_i c l he;split at hr
    ·rename_i oM;simp only[gu,decide_eq_true_eq]at oM;split at hr
     ·rename_i m GB;split at hr
      ·rename_i h J6;split at hr
       ·rename_i b eQ;simp only[aZ,aN]at hr;obtain⟨rfl,rfl,rfl⟩:=hr;have k1:=ax _ _ hx;rw[he]at k1;have q1:=A8 ax lU GB;have q2:=A8 ax xM J6;have q3:=A8 ax fz eQ;have Cb:m<=l.length:=by rcases q1 with⟨_,h⟩|⟨_,_,n,_,_,_,h,h'⟩<;>omega
        have Zb:h<=m:=by
         rcases q2 with⟨hh,h⟩|⟨_,_,n,_,_,_,h,h'⟩
         ·rcases q1 with⟨_,h1⟩|⟨y,_,_,hy,_⟩
          ·omega
          ·exfalso;subst hh;subst hy;simp only[uo,bH]at lU xM;obtain⟨_,_,rfl⟩:=lU;cases xM;exact Q4 rfl
         ·omega
        have Ym:b<=h:=by rcases q3 with⟨_,h⟩|⟨_,_,n,_,_,_,h,h'⟩<;>omega
        obtain⟨A,cap,bL,db,Yw,YY⟩:∃A cap,a.eval x= .slice A l.length cap/\l.length<=cap/\(c= .full->cap=l.length)∧
          (l=[]\/∃bb oo vs,A=some ⟨bb,oo,none⟩/\FR g bS sz l vs/\∀q v,vs[q]?=some v->g.im bb (oo+q)=some v):=by
         by_cases hle:l=[]
         ·subst hle;generalize a.eval x=xv at k1;cases k1 with
          |iJ=>exact⟨none,0,rfl,bF _,fun _=>rfl,.inl rfl⟩
          |gX _ _ ad cap hc=>
           refine⟨_,cap,rfl,qu _,fun h=>?_,.inl rfl⟩
           rcases hc with hc|⟨_,hc⟩
           ·rw[hc]at h;cases h
           ·exact hc
          |list _ _ _ bb oo eW nn cap xs hn db iS=>simp at hn;subst hn;exact⟨_,cap,rfl,db,fun h=>(by subst h;exact iS),.inl rfl⟩
         ·obtain⟨bb,oo,cap,vs,f1,f2,f3,f4,f5⟩:=k1.flat oM hle;exact⟨_,cap,f1,f2,fun h=>(by subst h;exact f3),.inr ⟨bb,oo,vs,rfl,f4,f5⟩⟩
        have Yp:∃M,(Instr.sliceBounds true l.length cap (lo.map a.eval) (hi.map a.eval) (mx.map a.eval)).run P w= .ok (b,h,M) w/\h<=M/\(mx.isSome=true->M=m)/\(mx=none->M=cap):=by
         rcases q1 with⟨rfl,ZI⟩|⟨ym,km,nm,rfl,Rt,Q1,ZI,ZJ⟩
         ·refine⟨cap,?_,by omega,fun h=>(by cases h),fun _=>rfl⟩;rcases q2 with⟨rfl,qO⟩|⟨yh,kh,nh,rfl,wu,xK,qO,xL⟩
          ·rcases q3 with⟨rfl,bN⟩|⟨yb,kb,nb,rfl,uS,ef,bN,cQ⟩
           ·subst bN qO;simp[Instr.sliceBounds]
           ·subst cQ qO;simp[Instr.sliceBounds,uS,run_sliceBound ef bN]
          ·have hb:(Instr.sliceBound (.int kh nh) cap .sliceAcap).run P w= .ok nh.toNat w:=run_sliceBound xK (by omega);rcases q3 with⟨rfl,bN⟩|⟨yb,kb,nb,rfl,uS,ef,bN,cQ⟩
           ·subst bN xL;simp[Instr.sliceBounds,wu,hb]
           ·subst cQ xL;simp[Instr.sliceBounds,wu,uS,hb,run_sliceBound ef bN]
         ·have QB:(Instr.sliceBound (.int km nm) cap .slice3Acap).run P w= .ok m w:=by rw[ZJ];exact run_sliceBound Q1 (by omega)
          refine⟨m,?_,Zb,fun _=>rfl,fun h=>(by cases h)⟩;rcases q2 with⟨rfl,qO⟩|⟨yh,kh,nh,rfl,wu,xK,qO,xL⟩
          ·exfalso;simp only[uo,bH]at lU xM;obtain⟨_,_,rfl⟩:=lU;cases xM;exact Q4 rfl
          ·have Qy:(Instr.sliceBound (.int kh nh) m .slice3B).run P w= .ok h w:=by rw[xL];exact run_sliceBound xK qO
           rcases q3 with⟨rfl,bN⟩|⟨yb,kb,nb,rfl,uS,ef,bN,cQ⟩
           ·subst bN;simp[Instr.sliceBounds,Rt,wu,QB,Qy]
           ·have:(Instr.sliceBound (.int kb nb) h .slice3C).run P w= .ok b w:=by rw[cQ];exact run_sliceBound ef bN
            simp[Instr.sliceBounds,Rt,wu,uS,QB,Qy,this]
        obtain⟨M,K_,hhM,Qo,Qp⟩:=Yp;have dj:(execOp a.eval o).run P w= .ok (.value (.slice (if M=b then A else A.map (·.add (b*sz))) (h-b) (M-b))) w:=by simp only[execOp,Ω,bL,Instr.sliceAt,Instr.slice,Sem.run_bind,run_underlying hu,Result.andThen_ok,K_,s1,Sem.run_pure]
        refine .pure hm hl ho dj ?_;have hlen:((l.take h).drop b).length=h-b:=by simp;omega
        have GF:∀bb oo,nw g (h-b) bb oo (M-b) (if L9.isSome=true then(if m=h then χ.full else .any)else if c= .full/\h=l.length then .full else .any):=by
         intro bb oo;split
         ·rename_i hs;have cd:mx.isSome=true:=by
           cases mx with
           |none=>cases lU;cases hs
           |some _=>rfl
          split
          ·have:=Qo cd;simp only[nw];omega
          ·trivial
         ·rename_i hs;have cd:mx=none:=by
           cases mx with
           |none=>rfl
           |some _=>simp only[uo,bH]at lU;obtain⟨_,_,rfl⟩:=lU;exact absurd rfl hs
          split
          ·rename_i hf;have:=Qp cd;have:=Yw hf.1;simp only[nw];omega
          ·trivial
        have ZY:∀tg,(if L9.isSome=true then(if m=h then χ.full else .any)else if c= .full/\h=l.length then .full else .any)≠ .own tg:=by intro tg;(repeat' split)<;>simp
        have kQ:∀A',A=some A'->c≠ .nil:=by
         intro A' XT hc;subst XT hc;rw[bL]at k1;cases k1 with
         |gX _ _ ad cap hc=>rcases hc with hc|⟨hc,_⟩<;>cases hc
         |list _ _ _ bb oo eW nn Pf xs hn Yt iS=>exact iS
        rcases YY with rfl|⟨bb,oo,vs,rfl,lR,cu⟩
        ·have ef:b=0:=by simp at Cb;omega
         have xK:h=0:=by simp at Cb;omega
         subst ef xK;simp only[List.take_nil,List.drop_nil,Nat.zero_mul,Nat.sub_zero];have hA:(if M=0 then A else A.map (·.add 0))=A:=by
          split
          ·rfl
          ·cases A<;>simp[Addr.add]
         rw[hA];cases yc:A with
         |none=>
          rw[bL,yc]at k1
          have X5:M=0:=by
           cases k1 with
           |iJ=>
            cases mx with
            |none=>exact Qp rfl
            |some _=>have:=Qo rfl;simp at Cb;omega
          subst X5;have YB:c= .nil:=by cases k1;rfl
          rw[if_pos YB];exact .iJ _
         |some A'=>
          have YA:=kQ A' yc
          rw[if_neg YA];rw[bL,yc]at k1;cases k1 with
          |gX _ _ ad cap hc=>
           refine .gX _ _ _ _ ?_
           have hq:=GF 0 0;have Q8:=ZY;generalize(if L9.isSome=true then(if m=0 then χ.full else .any)else if c= .full/\0=([]:List AV).length then .full else .any)=cc at hq Q8⊢;cases cc with
           |any=>exact .inl rfl
           |nil=>exact hq.elim
           |own tg=>exact absurd rfl (Q8 tg)
           |full=>exact .inr ⟨rfl,by simpa[nw]using hq⟩
          |list _ _ _ bb oo eW nn Pf xs hn Yt iS=>exact .list _ _ [] bb oo sz 0 _ (fun _ _=>undef) rfl (qu _) (by have:=GF bb oo;simpa using this) (by simp) (fun i hi=>by omega) (fun i hi=>by simp at hi)
        ·rw[if_neg (kQ _ rfl)];by_cases Qx:h-b=0
         ·have wh:(l.take h).drop b=[]:=List.eq_nil_of_length_eq_zero (by omega);rw[wh,Qx];have hA:∃o2,(if M=b then some (⟨bb,oo,none⟩:Addr)else(some (⟨bb,oo,none⟩:Addr)).map (·.add (b*sz)))=some ⟨bb,o2,none⟩:=by
           split
           ·exact⟨_,rfl⟩
           ·exact⟨oo+b*sz,by simp[Addr.add_mid]⟩
          obtain⟨o2,hA⟩:=hA;rw[hA];exact .list _ _ [] bb o2 sz 0 _ (fun _ _=>undef) rfl (qu _) (by have:=GF bb o2;rwa[Qx]at this) (by simp) (fun i hi=>by omega) (fun i hi=>by simp at hi)
         ·have X4:¬M=b:=by omega
          simp only[if_neg X4,qv,Addr.add_mid];have Y0:FR g bS sz ((l.take h).drop b) ((vs.take (h*sz)).drop (b*sz)):=by
           have uQ:=lR.1;have hle:h*sz<=l.length*sz:=rG _ (by omega);have hbz:b*sz<=h*sz:=rG _ Ym;refine⟨?_,fun e he=>lR.2.1 e (pa (qp he)),fun v hv=>lR.2.2.1 v (pa (qp hv)),fun i hi j hj nG=>?_⟩
           ·rw[hlen,Nat.sub_mul];simp;omega
           ·have aj:b+i<l.length:=by rw[hlen]at hi;omega
            have GJ:((l.take h).drop b)[i]=l[b+i]:=by simp
            have dp:j<l[b+i].cells.length:=by rw[<-GJ];exact hj
            have uH:j<sz:=by rw[<-lR.2.1 _ (cL aj)];exact dp
            have Kt:b*sz+(i*sz+j)=(b+i)*sz+j:=by rw[kM];omega
            have:=lR.2.2.2 (b+i) aj j dp (by rw[uQ];exact Ha aj uH);simp only[wW,List.getElem_take,Kt];simpa only[GJ]using this
          refine VR.HE Y0 hlen (by omega) (GF _ _) (fun q v hq=>?_);have x5:vs[b*sz+q]?=some v:=by
           rw[List.getElem?_drop]at hq;rw[List.getElem?_take]at hq;split at hq
           ·exact hq
           ·cases hq
          have:=cu _ _ x5;rwa[<-vt]at this
       ·cases hr
      ·cases hr
     ·cases hr
    ·cases hr
   ·cases hr
 ·rename_i x' Su aj hu hx fz xM lU;cases hc;have KO:mx=none:=by
   cases mx with
   |none=>rfl
   |some _=>simp only[uo,bH]at lU;obtain⟨_,_,h⟩:=lU;cases h
  subst KO;simp only[aC]at hr;split at hr
  ·rename_i s he;split at hr
   ·rename_i h J6;split at hr
    ·rename_i b eQ;simp only[aZ,aN]at hr;obtain⟨rfl,rfl,rfl⟩:=hr;have k1:=ax _ _ hx;rw[he]at k1;have q2:=A8 ax xM J6;have q3:=A8 ax fz eQ;cases bL:a.eval x<;>rw[bL]at k1<;>cases k1;rename_i bs eU;have ij:=Dh eU;have K_:(Instr.sliceBounds false bs.size bs.size (lo.map a.eval) (hi.map a.eval) none).run P w= .ok (b,h,bs.size) w:=by
      rcases q2 with⟨rfl,qO⟩|⟨yh,kh,nh,rfl,wu,xK,qO,xL⟩
      ·rcases q3 with⟨rfl,bN⟩|⟨yb,kb,nb,rfl,uS,ef,bN,cQ⟩
       ·subst bN qO;simp[Instr.sliceBounds,ij]
       ·subst cQ qO;simp[Instr.sliceBounds,uS,run_sliceBound ef bN,ij]
      ·rw[<-ij]at qO;have bf:(Instr.sliceBound (.int kh nh) bs.size .sliceAlen).run P w= .ok nh.toNat w:=run_sliceBound xK qO;rcases q3 with⟨rfl,bN⟩|⟨yb,kb,nb,rfl,uS,ef,bN,cQ⟩
       ·subst bN xL;simp[Instr.sliceBounds,wu,bf]
       ·subst cQ xL;simp[Instr.sliceBounds,wu,uS,bf,run_sliceBound ef bN]
     refine .pure hm hl ho (x:= .string (bs.extract b h)) ?_ (.str _ _ _ ?_)
     ·simp only[execOp,Ω,bL,Instr.sliceAt,Instr.slice,Sem.run_bind,run_underlying hu,Result.andThen_ok,ahI,Option.isSome_none,gY,if_false,K_,Sem.run_pure]
     ·rw[<-eU,<-List.map_take,<-List.map_drop];congr 1;simp[ByteArray.data_extract,ahF,Nd,List.drop_take]
    ·cases hr
   ·cases hr
  ·cases hr
 ·cases hc
theorem adY(ax:eM g lb ev a)(hm:a8 g own LC mem w)(hl:cA g lb own loc w)(ho:bV base own w){x:Operand}{k:Nat}(Ω:o.op= .extract x k)
  (hc:bE P bJ o=some ao) (hr:aC ev loc mem aF o.dst ao=some (v,u,m')):eE P base LC g lb own loc w a o v u m':=by
 simp only[bE,Ω,bH]at hc;obtain⟨x',hx,rfl⟩:=hc;simp only[aC]at hr;split at hr
 ·rename_i l he;simp only[bH,aN]at hr;obtain⟨r,hr,rfl,rfl,rfl⟩:=hr;have k1:=ax _ _ hx;rw[he]at k1;obtain⟨ρ,rfl⟩:=kg.1 hr;obtain⟨xv,bL⟩:∃xv,a.eval x=xv:=⟨_,rfl⟩;rw[bL]at k1;cases k1 with
  |aP _ _ b hs hv=>
   have hk:k<b.size:=by omega
   refine .pure hm hl ho ?_ (hv k ρ hk);simp only[execOp,Ω,bL,Instr.extract,vj hk];rfl
 ·cases hr
theorem adP(hm:a8 g own LC mem w)(hl:cA g lb own loc w)(ho:bV base own w){e:TypeId}(Ω:o.op= .alloc e)
  (hc:bE P bJ o=some ao) (hr:aC ev loc mem aF o.dst ao=some (v,u,m')):eE P base LC g lb own loc w a o v u m':=by
 simp only[bE,Ω]at hc;split at hc
 ·rename_i d z hd hz;obtain⟨zv,i,hi,oV,pW,mE,tN,h0,cU,h1⟩:=AD (P:=P) (g:=g) (lb:=lb) (w:=w) hz;split at hc
  ·rename_i be gh;cases hc;simp only[aC,aZ,aN]at hr;obtain⟨rfl,rfl,rfl⟩:=hr;have hb:MZ P e=some be:=by
    split at gh
    ·exact gh
    ·cases gh
   have yd:zv= .agg #[.pointer none,.slice none 0 0]:=by
    unfold MZ at hb;rw[hi]at hb;simp only[oV]at hb;split at hb
    ·rename_i h2 _;cases h2;rfl
    ·cases hb
   subst yd;exact⟨_,_,.inl (by simp only[execOp,Ω,Instr.alloc,Sem.run_bind,pW,Result.andThen_ok,Sem.run_pure];rfl),adw hm hl ho⟩
  cases hc;simp only[aC]at hr;refine⟨_,_,.inl ?_,Ma (e:=e) hm hl ho (cs:=zv.cells) (by rw[mE,tN]) (fun j hj dp=>by have:=cU.2 j hj (by simpa using dp);rwa[l9]at this)
   (fun j hj=>h1 _ (by simp)) hr⟩
  simp only[execOp,Ω,Instr.alloc,Sem.run_bind,pW,Result.andThen_ok,Sem.run_pure];rfl
 ·cases hc
theorem adR(ax:eM g lb ev a)(hm:a8 g own LC mem w)(hl:cA g lb own loc w)(ho:bV base own w){e:TypeId}{x:Operand}(Ω:o.op= .box e x)
  (hc:bE P bJ o=some ao) (hr:aC ev loc mem aF o.dst ao=some (v,u,m')):eE P base LC g lb own loc w a o v u m':=by
 simp only[bE,Ω]at hc;split at hc
 ·rename_i d n x' hd hn hx;cases hc;simp only[aC]at hr;split at hr
  ·rename_i hlen;obtain⟨s1,s2,-⟩:=oA (P:=P) (w:=w) hn;obtain⟨cU,h1⟩:=HP (ax _ _ hx) (by omega);refine⟨_,_,.inl ?_,Ma (e:=e) hm hl ho (cs:=(a.eval x).cells) (by simpa using cU.1.symm) (fun j hj dp=>by have:=cU.2 j hj (by simpa using dp);rwa[l9]at this)
    (fun j hj=>h1 _ (by simp)) hr⟩
   simp only[execOp,Ω,Instr.box,Sem.run_bind,Result.andThen_ok,Go.newVar,newRow,run_newObj,Sem.run_pure];rfl
  ·cases hr
 ·cases hc
theorem ad4(ax:eM g lb ev a)(hm:a8 g own LC mem w)(hl:cA g lb own loc w)(ho:bV base own w){t:TypeId}{x:Operand}(Ω:o.op= .load t x)
  (hc:bE P bJ o=some ao) (hr:aC ev loc mem aF o.dst ao=some (v,u,m')):eE P base LC g lb own loc w a o v u m':=by
 simp only[bE,Ω]at hc;split at hc
 ·rename_i ag n x' lO hn hx;cases hc;simp only[aC]at hr;split at hr
  ·rename_i cs pP;simp only[bH,aN]at hr;obtain⟨r,hr,rfl,rfl,rfl⟩:=hr;obtain⟨b,off,vs,e1,e2,e3,e4,e5,e6⟩:=TB hm hl (ax _ _ hx) pP;obtain⟨s1,s2,s3⟩:=oA (P:=P) (w:=w) hn;have BP:=H8 (w:=w) lO;obtain⟨k1,k2⟩:=ID (a:=vs.toArray) (g:=g) (lb:=lb) ⟨by simp;omega,fun i hi aj=>e5 i hi (by simpa using aj)⟩ (by simpa using e6) hr;have n_:∀j v,vs[j]?=some v->w.cell? ((⟨b,off,none⟩:Addr).add j)=some v:=fun j v hj=>by rw[Addr.add_mid];exact e4 j v hj
   cases ag with
   |true=>
    refine .pure hm hl ho ?_ (k1 rfl)
    have zT:=run_loadCells_list (P:=P) w ⟨b,off,none⟩ vs n_;simp only[execOp,Ω,e1,Instr.loadAt,Instr.sureAddr,Sem.run_bind,Sem.run_pure,Result.andThen_ok,loadVar,BP,if_true,s1];rw[<-e2];simp only[zT,Result.andThen_ok]
   |false=>
    obtain⟨z,hz,wq⟩:=k2 rfl
    have zX:vs=[z]:=by simpa using hz
    subst zX;have h0:w.cell? ⟨b,off,none⟩=some z:=by simpa using e4 0 z (by simp)
    refine .pure hm hl ho ?_ wq;simp only[execOp,Ω,e1,Instr.loadAt,Instr.sureAddr,Sem.run_bind,Sem.run_pure,Result.andThen_ok,loadVar,BP,gY,if_false,run_load,h0]
  ·cases hr
 ·cases hc
theorem aeg(ax:eM g lb ev a)(hm:a8 g own LC mem w)(hl:cA g lb own loc w)(ho:bV base own w){t:TypeId}{x y:Operand}(Ω:o.op= .store t x y)
  (hc:bE P bJ o=some ao) (hr:aC ev loc mem aF o.dst ao=some (v,u,m')):eE P base LC g lb own loc w a o v u m':=by
 simp only[bE,Ω]at hc;split at hc
 ·rename_i n x' y' hn hx hy;cases hc;simp only[aC]at hr;split at hr
  ·rename_i hlen;simp only[bH,aN,Prod.exists]at hr;obtain⟨u1,m1,hw,rfl,rfl,rfl⟩:=hr;obtain⟨s1,s2,-⟩:=oA (P:=P) (w:=w) hn;obtain⟨cU,h1⟩:=HP (ax _ _ hy) (by omega);obtain⟨b,off,cur,e,e1,e2,e3,e4⟩:=M5 hm hl ho (ax _ _ hx) cU h1 hw;refine⟨undef,_,.inr ⟨?_,rfl⟩,e4⟩;have bh:(a.eval y).cells.size=n:=by have:=cU.1;simp at this;omega
   have ψ:=run_storeCells_at P b off e (a.eval y).cells.toList 0 cur w e2 (by simpa using e3) h1;simp only[execOp,Ω,e1,Instr.storeAt,Instr.sureAddr,Sem.run_bind,Sem.run_pure,Result.andThen_ok,storeVar,s1,bh];rw[if_neg (by simp)];simp only[ψ,Result.andThen_ok,ui];rfl
  ·cases hr
 ·cases hc
end
section
variable{P:Program}{base:Nat}{LC:eN}{g:Gh}{lb:LB}{own:OW}{loc:Nat->Option (Nat×κ)}{mem:Mem}{w:World}{bJ:Nat->Bool}{aF:cx}
variable{ev:bm->AV}{a:Act}{o:Oper}{ao:AO}{v:AV}{u:kZ}{m':Mem}
theorem PT(sz:Nat):∀(parts:List (Nat×Operand)) (k:Nat) (xs:List Operand) (cs:Array Value),D9 k parts=some xs->(∀x∈xs,(a.eval x).cells.size=sz)->(k+xs.length)*sz<=cs.size→
  ∃ws:Array Value,Instr.fill (fun i=>some (i*sz,sz)) cs (parts.map fun(i,x)=>(i,a.eval x))=some ws∧
   ws.toList=cs.toList.take (k*sz)++(xs.map fun x=>(a.eval x).cells.toList).flatten++cs.toList.drop ((k+xs.length)*sz)
 |[],k,xs,cs,h,_,_=>by cases h;exact⟨cs,rfl,by simp⟩
 |(i,x)::parts,k,xs,cs,h,hs,hle=>by
  simp only[D9]at h;split at h
  ·rename_i B7;subst B7;simp only[bH]at h;obtain⟨ys,hy,rfl⟩:=h;have hx:(a.eval x).cells.size=sz:=hs x (by simp);simp only[eZ]at hle;have QZ:i*sz+sz<=cs.size:=by have:(i+1)*sz<=(i+(ys.length+1))*sz:=rG _ (by omega);rw[kM]at this;omega
   let sW:Array Value:=(a.eval x).cells.zipIdx.foldl (fun cs (c,j)=>cs.setIfInBounds (i*sz+j) c) cs;have Cx:sW.toList=cs.toList.take (i*sz)++(a.eval x).cells.toList++cs.toList.drop (i*sz+sz):=by have h:=Jy (i*sz) (a.eval x).cells.toList 0 cs (by simp only[vk,hx];omega);simp only[ui,vk,hx]at h;rw[<-h];simp only[sW,<-ahG,ahH]
   have Cv:sW.size=cs.size:=by have:=congrArg List.length Cx;simp[hx]at this;omega
   have KI:(i+1+ys.length)*sz<=sW.size:=by
    have:i+1+ys.length=i+(ys.length+1):=by omega
    rw[Cv,this];exact hle
   obtain⟨ws,e1,e2⟩:=PT sz parts (i+1) ys sW hy (fun y hy=>hs y (by simp[hy])) KI;refine⟨ws,?_,?_⟩
   ·simp only[ay,Instr.fill];rw[if_neg (by simp[hx];omega)];exact e1
   ·rw[e2,Cx];have h1:(i+1)*sz=i*sz+sz:=by rw[kM,Nat.one_mul]
    have h2:(i+1+ys.length)*sz=i*sz+sz+ys.length*sz:=by rw[kM,h1]
    have h3:(i+(ys.length+1))*sz=i*sz+sz+ys.length*sz:=by rw[kM,kM,Nat.one_mul];omega
    have hl:(cs.toList.take (i*sz)++(a.eval x).cells.toList).length=i*sz+sz:=by simp[hx];omega
    rw[h1,h2];simp only[ay,List.flatten_cons,eZ,h3];rw[List.take_append_of_le_length (by rw[hl];exact bF _),List.take_of_length_le (by rw[hl];exact bF _)];rw[List.drop_append,hl,ahJ (by rw[hl];omega)];simp[List.append_assoc]
  ·cases h
theorem FR.flatten{sz:Nat}(h0:0<sz):∀(l:List AV) (m:List Value),PW (VR g lb) l m->(∀e∈l,e.cells.length=sz)->FR g lb sz l (m.map fun x=>x.cells.toList).flatten
 |[],[],_,_=>FR.nil sz
 |[],_::_,h,_=>by have:=h.1;simp at this
 |_::_,[],h,_=>by have:=h.1;simp at this
 |e::l,x::m,h,hs=>by have h1:=FR.one (g:=g) (lb:=lb) (h.2 0 (by simp) (by simp)) (hs e (by simp)) h0;have h2:=FR.flatten h0 l m ⟨by have:=h.1;simpa using this,fun i hi aj=>by have:=h.2 (i+1) (by simpa using hi) (by simpa using aj);simpa using this⟩ (fun e he=>hs e (by simp[he]));have:=h1.append h2;simpa using this
theorem adS(ax:eM g lb ev a)(hm:a8 g own LC mem w)(hl:cA g lb own loc w)(ho:bV base own w){t:TypeId}{len:Nat}{parts:Array (Nat×Operand)}(Ω:o.op= .buildSlice t len parts)
  (hc:bE P bJ o=some ao) (hr:aC ev loc mem aF o.dst ao=some (v,u,m')):eE P base LC g lb own loc w a o v u m':=by
 simp only[bE,Ω]at hc;split at hc
 ·rename_i e xs hu hd;split at hc
  ·rename_i sz ag z vi bh lO hz Rr;split at hc
   ·rename_i hlen;obtain⟨hlen,J7⟩:=hlen;cases hc;simp only[aC]at hr;split at hr
    ·rename_i oM;simp only[aZ,aN]at hr;obtain⟨rfl,rfl,rfl⟩:=hr;simp only[gu]at oM;obtain⟨s1,h0,s3⟩:=oA (P:=P) (w:=w) bh;obtain⟨zv,i,hi,oV,pW,mE,tN,GO,-,-⟩:=AD (P:=P) (g:=g) (lb:=lb) (w:=w) hz;have ahc:i.size=sz:=by rw[hi]at s3;simpa using s3
     have cU:=Ek ax Rr;have er:∀e∈vi.map ev,e.cells.length=sz:=fun e he=>by obtain⟨x,hx,rfl⟩:=jy.1 he;exact ML (oM x hx)
     have qU:xs.length=vi.length:=by have:=cU.1;simp at this;omega
     have QG:∀x∈xs,(a.eval x).cells.size=sz:=fun x hx=>by
      obtain⟨j,hj,rfl⟩:=qo.1 hx;have dp:j<vi.length:=by omega
      have wq:=cU.2 j (by simpa using dp) (by simpa using hj);simp only[List.getElem_map]at wq;have hc:=er (ev vi[j]) (jy.2 ⟨_,cL dp,rfl⟩);have:=(HP wq (by omega)).1.1;simp at this;omega
     let init:Array Value:=(ahK (len*sz)).map (zv.cells[· % zv.cells.size]!);obtain⟨ws,e1,e2⟩:=PT (a:=a) sz parts.toList 0 xs init hd QG (by simp[init,hlen]);have Cy:ws.toList=(xs.map fun x=>(a.eval x).cells.toList).flatten:=by rw[e2];have:init.toList.drop ((0+xs.length)*sz)=[]:=ahJ (by simp[init,hlen]);rw[this];simp
     have lR:FR g bS sz (vi.map fun x=>mem.φ (ev x)) ws.toList:=by rw[Cy];have h1:=(FR.flatten h0 (vi.map ev) (xs.map a.eval) cU er).φ hm;simpa[c6,Function.comp_def]using h1
     have pN:=afu (e:=e) hm hl ho lR;have Zz:(vi.map fun x=>mem.φ (ev x)).length=len:=by simp;omega
     rw[Zz]at pN;refine⟨_,_,.inl ?_,pN⟩;have xU:(parts.map fun(i,x)=>(i,a.eval x)).toList=parts.toList.map fun(i,x)=>(i,a.eval x):=by simp
     by_cases wb:len*sz=0
     ·have Zg:init=(ahK (len*sz)).map ((#[]:Array Value)[· % (#[]:Array Value).size]!):=by simp[init,wb]
      simp only[execOp,Ω,Instr.buildSlice,Sem.run_bind,run_underlying hu,Result.andThen_ok,s1];rw[if_neg (by omega),if_pos wb];simp only[Sem.run_bind,Sem.run_pure,Result.andThen_ok,xU];rw[<-Zg,e1];simp only[newRow,run_newObj,Sem.run_bind,Result.andThen_ok,Sem.run_pure];rfl
     ·simp only[execOp,Ω,Instr.buildSlice,Sem.run_bind,run_underlying hu,Result.andThen_ok,s1];rw[if_neg (by omega),if_neg wb];simp only[Sem.run_bind,pW,Sem.run_pure,Result.andThen_ok,xU];have WA:Instr.fill (fun i=>some (i*sz,sz)) ((ahK (len*sz)).map (zv.cells[· % zv.cells.size]!)) (parts.toList.map fun(i,x)=>(i,a.eval x))=some ws:=e1;rw[WA];simp only[newRow,run_newObj,Sem.run_bind,Result.andThen_ok,Sem.run_pure];rfl
    ·cases hr
   ·cases hc
  ·cases hc
 ·cases hc
theorem SX(ax:eM g lb ev a)(hm:a8 g own LC mem w)(hl:cA g lb own loc w)(ho:bV base own w){c:Call}(Ω:o.op= .call c)(hb:c.callee= .builtin .max\/c.callee= .builtin .min)
  (hc:bE P bJ o=some ao) (hr:aC ev loc mem aF o.dst ao=some (v,u,m')):eE P base LC g lb own loc w a o v u m':=by
 have key:∃x y x' y',c.args.toList=[x,y]/\cm x=some x'/\cm y=some y'/\((c.callee= .builtin .max/\ao= .max x' y')\/(c.callee= .builtin .min/\ao= .min x' y')):=by
  rcases hb with hb|hb<;>simp only[bE,Ω,hb]at hc
  all_goals
   split at hc
   ·rename_i x y Ln;split at hc
    ·rename_i x' y' hx hy;cases hc;exact⟨x,y,x',y',Ln,hx,hy,by simp[hb]⟩
    ·cases hc
   ·cases hc
 obtain⟨x,y,x',y',Ln,hx,hy,Yh⟩:=key;have jd:(c.args.map a.eval)= #[a.eval x,a.eval y]:=by
  have:(c.args.map a.eval).toList=[a.eval x,a.eval y]:=by simp[Ln]
  rw[<-wV (xs:=c.args.map a.eval),this]
 rcases Yh with⟨hb,rfl⟩|⟨hb,rfl⟩
 all_goals
  simp only[aC]at hr;split at hr
  ·rename_i k p k' q e1 e2;split at hr
   ·rename_i hk;subst hk;simp only[aZ,aN]at hr;obtain⟨rfl,rfl,rfl⟩:=hr;have k1:=ax _ _ hx;have k2:=ax _ _ hy;rw[e1]at k1;rw[e2]at k2;refine .pure hm hl ho ?_ (.int _ _ _);simp only[execOp,Ω,resolve,hb,jd,ub k1,ub k2,Sem.run_bind,Sem.run_pure,Result.andThen_ok,invoke,builtin,Builtin.max_,Builtin.min_];rfl
   ·cases hr
  ·cases hr
end
section
variable{P:Program}{base:Nat}{LC:eN}{g:Gh}{lb:LB}{own:OW}{loc:Nat->Option (Nat×κ)}{mem:Mem}{w:World}{bJ:Nat->Bool}{aF:cx}
variable{ev:bm->AV}{a:Act}{o:Oper}{ao:AO}{v:AV}{u:kZ}{m':Mem}
theorem Hy(hm:a8 g own LC mem w){id:Nat}{es:List (AV×AV)}{x:Value}(hx:VR g lb (.map id) x)(hb:mem.ε[id]?=some (.map es)):
  ∃(b:Nat) (dc:Array MapEntry) (clock:Nat),x= .map (some b)/\g.mb id=some b/\own b=some (.m id)/\(∀o,g.im b o=none)/\w.heap[b]?=some (.map dc clock)/\dc.size=es.length∧
   (∀i (h:i<es.length) (h':i<dc.size),VR g bS es[i].1 dc[i].key/\VR g bS es[i].2 dc[i].val)/\∀p∈es,plain p.1=true/\plain p.2=true:=by
 cases hx with
 |map _ _ b h=>
  obtain⟨b',h1,h2,h3,dc,clock,h4,h5,h6,h7⟩:=hm.blk id _ hb
  rw[h]at h1;cases h1;exact⟨b,dc,clock,rfl,h,h2,h3,h4,h5,h6,h7⟩
theorem run_getObj_map{b:Nat}{dc:Array MapEntry}{clock:Nat}(h:w.heap[b]?=some (.map dc clock)):(getObj b).run P w= .ok (.map dc clock) w:=by simp only[getObj,Sem.run,h]
theorem ad5(ax:eM g lb ev a)(hm:a8 g own LC mem w)(hl:cA g lb own loc w)(ho:bV base own w){c:Call}(Ω:o.op= .call c)(hb:c.callee= .builtin .len)
  (hc:bE P bJ o=some ao) (hr:aC ev loc mem aF o.dst ao=some (v,u,m')):eE P base LC g lb own loc w a o v u m':=by
 simp only[bE,Ω,hb]at hc;split at hc
 ·rename_i x t jd uO;have oN:(c.args.map a.eval)= #[a.eval x]:=by
   have:(c.args.map a.eval).toList=[a.eval x]:=by simp[jd]
   rw[<-wV (xs:=c.args.map a.eval),this]
  have qT:c.argTypes= #[t]:=by rw[<-wV (xs:=c.argTypes),uO]
  have dj:∀y w',(Builtin.len_ #[t] o.type #[a.eval x]).run P w= .ok y w'->(execOp a.eval o).run P w= .ok (.value y) w':=fun y w' h=>by simp only[execOp,Ω,resolve,hb,oN,qT,Sem.run_bind,Sem.run_pure,Result.andThen_ok,invoke,builtin,h]
  split at hc
  ·rename_i x' hu hx;cases hc;have k1:=ax _ _ hx;obtain⟨xv,bL⟩:∃xv,a.eval x=xv:=⟨_,rfl⟩;rw[bL]at k1;simp only[aC]at hr;split at hr
   ·rename_i s e1;simp only[aZ,aN]at hr;obtain⟨rfl,rfl,rfl⟩:=hr;rw[e1]at k1;cases k1 with
    |str _ bs _ eU=>
     refine .pure hm hl ho (dj (.int .i64 bs.size) w ?_) (by rw[Dh eU];exact .int _ _ _)
     simp[bL,Builtin.len_,run_underlying hu,goInt]
   ·cases hr
  ·rename_i e x' hu hx;cases hc;have k1:=ax _ _ hx;obtain⟨xv,bL⟩:∃xv,a.eval x=xv:=⟨_,rfl⟩;rw[bL]at k1;simp only[aC]at hr;split at hr
   ·rename_i c' l e1;simp only[aZ,aN]at hr;obtain⟨rfl,rfl,rfl⟩:=hr;rw[e1]at k1;have hs:∃A cap,xv= .slice A l.length cap:=by
     cases k1 with
     |iJ=>exact⟨_,_,rfl⟩
     |gX=>exact⟨_,_,rfl⟩
     |list _ _ _ b o sz n cap xs hn=>subst hn;exact⟨_,_,rfl⟩
    obtain⟨A,cap,rfl⟩:=hs;refine .pure hm hl ho (dj (.int .i64 l.length) w ?_) (.int _ _ _);simp[bL,Builtin.len_,run_underlying hu,goInt]
   ·rename_i id off n cp e1;simp only[aZ,aN]at hr;obtain⟨rfl,rfl,rfl⟩:=hr;rw[e1]at k1;cases k1;refine .pure hm hl ho (dj (.int .i64 n) w ?_) (.int _ _ _);simp[bL,Builtin.len_,run_underlying hu,goInt]
   ·cases hr
  ·rename_i k e x' hu hx;cases hc;have k1:=ax _ _ hx;obtain⟨xv,bL⟩:∃xv,a.eval x=xv:=⟨_,rfl⟩;rw[bL]at k1;simp only[aC]at hr;split at hr
   ·rename_i e1;simp only[aZ,aN]at hr;obtain⟨rfl,rfl,rfl⟩:=hr;rw[e1]at k1;cases k1;refine .pure hm hl ho (dj (.int .i64 0) w ?_) (.int _ _ _);simp[bL,Builtin.len_,run_underlying hu,goInt]
   ·rename_i id e1;split at hr
    ·rename_i es he;simp only[aZ,aN]at hr;obtain⟨rfl,rfl,rfl⟩:=hr;rw[e1]at k1;obtain⟨b,dc,clock,rfl,-,-,-,h4,h5,-⟩:=Hy hm k1 he;refine .pure hm hl ho (dj (.int .i64 es.length) w ?_) (.int _ _ _);simp[bL,Builtin.len_,run_underlying hu,goInt,run_getObj_map h4,h5]
    ·cases hr
   ·cases hr
  ·rename_i n e x' hu hx;cases hc;simp only[aC,aZ,aN]at hr;obtain⟨rfl,rfl,rfl⟩:=hr;refine .pure hm hl ho (dj (.int .i64 n) w ?_) (.int _ _ _);generalize a.eval x=xv;cases xv<;>simp[Builtin.len_,run_underlying hu,goInt]
  ·cases hc
 ·cases hc
theorem adQ(ax:eM g lb ev a)(hm:a8 g own LC mem w)(hl:cA g lb own loc w)(ho:bV base own w){c:Call}(Ω:o.op= .call c)(hb:c.callee= .builtin .append)
  (hc:bE P bJ o=some ao) (hr:aC ev loc mem aF o.dst ao=some (v,u,m')):eE P base LC g lb own loc w a o v u m':=by
 simp only[bE,Ω,hb]at hc;split at hc
 ·rename_i x y t t' jd uO;split at hc
  ·rename_i e x' y' hu hx hy;split at hc
   ·rename_i i ag z hi lO hz;split at hc
    ·rename_i lC;subst lC;cases hc;have oN:(c.args.map a.eval)= #[a.eval x,a.eval y]:=by
      have:(c.args.map a.eval).toList=[a.eval x,a.eval y]:=by simp[jd]
      rw[<-wV (xs:=c.args.map a.eval),this]
     have qT:c.argTypes= #[t,t]:=by rw[<-wV (xs:=c.argTypes),uO]
     simp only[aC,bH,aN,Prod.exists]at hr;obtain⟨r,m1,hr,rfl,rfl,rfl⟩:=hr;obtain⟨zv,i',aj,oV,pW,mE,-,-,-,-⟩:=AD (P:=P) (g:=g) (lb:=lb) (w:=w) hz;rw[hi]at aj;cases aj;obtain⟨xr,w',h1,h2⟩:=U8 (P:=P) (ty:=o.type) hm hl ho (ax _ _ hx) (ax _ _ hy) hu hi oV mE hr;refine⟨xr,w',.inl ?_,h2⟩;simp only[execOp,Ω,resolve,hb,oN,qT,Sem.run_bind,Sem.run_pure,Result.andThen_ok,invoke,builtin,h1]
    ·cases hc
   ·cases hc
  ·cases hc
 ·cases hc
theorem Hd{kk:KK}{kt:TypeId}(hk:oW P kt=some kk){k:AV}{kv:Value}(mT:isKey kk k=true)(hv:VR g lb k kv)(em:Bool):
  (Instr.checkKey em 10000 kt kv).run P w= .ok () w/\∃d,P.underlying kt=some d/\∀(k':AV) (wy:Value) (r:Bool),VR g bS k' wy->jj k k'=some r->Instr.sameNow d kv wy=some r:=by
 have cK:∀d,P.underlying kt=some d->(∀ms,d≠ .interface ms)->(∀n e,d≠ .array n e)->(∀fs,d≠ .struct fs)->∀n,(Instr.checkKey em (n+1) kt kv).run P w= .ok () w:=by intro d hu h1 h2 h3 n;simp only[Instr.checkKey,Sem.run_bind,run_underlying hu,Result.andThen_ok];cases d<;>first|rfl|exact absurd rfl (h1 _)|exact absurd rfl (h2 _ _)|exact absurd rfl (h3 _)
 unfold oW at hk;split at hk
 ·rename_i q hu;cases hk;refine⟨cK _ hu (by simp) (by simp) (by simp) 9999,_,hu,fun k' wy r mX hr=>?_⟩;cases k<;>simp[isKey]at mT;cases hv;cases k'<;>simp[jj]at hr;cases mX;simp only[Instr.sameNow];obtain⟨pH,rfl⟩:=hr;rw[if_pos pH];rfl
 ·rename_i hu;cases hk;refine⟨cK _ hu (by simp) (by simp) (by simp) 9999,_,hu,fun k' wy r mX hr=>?_⟩;cases k<;>simp[isKey]at mT;cases hv;rename_i s bs eU;cases k'<;>simp[jj]at hr;cases mX;rename_i s' pc Yq;simp only[Instr.sameNow];subst hr;rw[beq_toListBytes,MR eU Yq]
 ·rename_i hu;cases hk;refine⟨cK _ hu (by simp) (by simp) (by simp) 9999,_,hu,fun k' wy r mX hr=>?_⟩;cases k<;>simp[isKey]at mT;cases hv;cases k'<;>simp[jj]at hr;cases mX;simp only[Instr.sameNow];subst hr;rfl
 ·cases hk
def posOf(k:AV):List (AV×AV)->Nat->Option (Nat×AV)
 |[],_=>none
 |(k',v)::l,i=>if jj k k'=some true then some (i,v)else posOf k l (i+1)
theorem Ev{kv:Value}{d:TypeDesc}{k:AV}(hs:∀(k':AV) (wy:Value) (r:Bool),VR g bS k' wy->jj k k'=some r->Instr.sameNow d kv wy=some r):
  ∀(es:List (AV×AV)) (dc:List MapEntry) (i:Nat),es.length=dc.length->(∀j (h:j<es.length) (h':j<dc.length),VR g bS es[j].1 dc[j].key/\VR g bS es[j].2 dc[j].val)→
  iZ k es≠none->((iZ k es=some none/\Instr.findNow d kv dc i=some none/\posOf k es i=none)∨
   ∃j v,iZ k es=some (some v)/\posOf k es i=some (i+j,v)/\∃(h:j<es.length) (h':j<dc.length),v=es[j].2/\Instr.findNow d kv dc i=some (some (i+j,dc[j].val)))
 |[],[],i,_,_,_=> .inl ⟨rfl,rfl,rfl⟩
 |[],_::_,_,h,_,_=>by simp at h
 |_::_,[],_,h,_,_=>by simp at h
 |(k',v)::es,e::dc,i,hlen,hv,ak=>by
  have h0:=hv 0 (by simp) (by simp);simp only[me]at h0;simp only[iZ]at ak⊢;cases hk:jj k k' with
  |none=>rw[hk]at ak;exact absurd rfl ak
  |some r=>
   rw[hk]at ak
   have kz:=hs _ _ r h0.1 hk;cases r with
   |true=>exact .inr ⟨0,v,rfl,by simp[posOf,hk],by simp,by simp,rfl,by simp[Instr.findNow,kz]⟩
   |false=>
    dsimp only at ak⊢
    have ih:=Ev hs es dc (i+1) (by simpa using hlen) (fun j h h'=>by have:=hv (j+1) (by simpa using h) (by simpa using h');simpa using this) ak;rcases ih with⟨h1,h2,h3⟩|⟨j,v',h1,h2,h3,h4,h5,h6⟩
    ·exact .inl ⟨h1,by simp[Instr.findNow,kz,h2],by simp[posOf,hk,h3]⟩
    ·refine .inr ⟨j+1,v',h1,?_,by simpa using h3,by simpa using h4,by simpa using h5,?_⟩
     ·simp only[posOf,hk];rw[if_neg (by simp),h2];simp;omega
     ·simp only[Instr.findNow,kz,h6,List.getElem_cons_succ];simp;omega
theorem yG{kv:Value}{kt:TypeId}{d:TypeDesc}{l:List MapEntry}{r:Option (Nat×Value)}(hu:P.underlying kt=some d)(h:Instr.findNow d kv l 0=some r):(Instr.findKey kt kv l).run P w= .ok r w:=by simp only[Instr.findKey,Sem.run_bind,run_underlying hu,Result.andThen_ok,h,Sem.run_pure]
theorem ad6(ax:eM g lb ev a)(hm:a8 g own LC mem w)(hl:cA g lb own loc w)(ho:bV base own w){t:TypeId}{x y:Operand}{ok:Bool}(Ω:o.op= .lookup t x y ok)
  (hc:bE P bJ o=some ao) (hr:aC ev loc mem aF o.dst ao=some (v,u,m')):eE P base LC g lb own loc w a o v u m':=by
 simp only[bE,Ω]at hc;split at hc
 ·rename_i kt e x' y' hu hx hy;split at hc
  ·rename_i z kk hz pH;cases hc;obtain⟨zv,Ru,yd⟩:∃zv,(zeroValue e).run P w= .ok zv w/\VR g lb z zv:=by
    unfold Uk at hz;split at hz
    ·rename_i i hi;split at hz
     ·rename_i zv Lt;exact⟨zv,by simp[zeroValue,typeInfo,hi,Lt],IA hz⟩
     ·cases hz
    ·cases hz
   have eS:∀(g:Gh) (x:AV) (y:Value),VR g bS x y->VR g lb x y:=fun g x y h=>h.mono g.eG fun _ _ _ h=>by cases h
   have KW:∀{r:AV} {rv:Value} {b:Bool},VR g lb r rv->VR g lb (if ok then .aP [r,.bool b]else r) (if ok then .tuple #[rv,.bool b]else rv):=fun{r rv b} h=>by
    cases ok
    ·exact h
    ·refine .aP _ _ _ rfl fun i hi aj=>?_
     match i,hi with
     |0,_=>exact h
     |1,_=>exact .bool _ _
   simp only[aC]at hr;split at hr
   ·rename_i e1;split at hr
    ·rename_i mT;simp only[aZ,aN]at hr;obtain⟨rfl,rfl,rfl⟩:=hr;obtain⟨cK,d,tL,-⟩:=Hd (P:=P) (w:=w) pH mT (ax _ _ hy) true;have k1:=ax _ _ hx;rw[e1]at k1;obtain⟨xv,bL⟩:∃xv,a.eval x=xv:=⟨_,rfl⟩;rw[bL]at k1;cases k1;have pE:(Instr.findKey kt (a.eval y) []).run P w= .ok none w:=yG tL rfl;refine .pure hm hl ho ?_ (KW (b:=false) yd);simp only[execOp,Ω,bL,Instr.lookup,Sem.run_bind,run_underlying hu,Result.andThen_ok,Sem.run_pure];simp only[Array.isEmpty,Array.size_empty,decide_true,cK,Result.andThen_ok,pE,Sem.run_bind,Ru,Sem.run_pure]
    ·cases hr
   ·rename_i id e1;split at hr
    ·rename_i es he;split at hr
     ·rename_i mT;simp only[bH]at hr;obtain⟨fr,lR,hr⟩:=hr;have k1:=ax _ _ hx;rw[e1]at k1;obtain⟨xv,bL⟩:∃xv,a.eval x=xv:=⟨_,rfl⟩;rw[bL]at k1;obtain⟨b,dc,clock,rfl,h2,h3,h4,h5,h6,h7,-⟩:=Hy hm k1 he;obtain⟨cK,d,tL,kz⟩:=Hd (P:=P) (w:=w) pH mT (ax _ _ hy) dc.isEmpty;have mB:=Ev kz es dc.toList 0 (by simpa using h6.symm) (fun j h h'=>by have:=h7 j h (by simpa using h');simpa using this) (by rw[lR];simp);rcases mB with⟨f1,f2,-⟩|⟨j,v',f1,-,f3,f4,f5,f6⟩
      ·rw[lR]at f1;cases f1;simp only[aN]at hr;obtain⟨rfl,rfl,rfl⟩:=hr;have pE:(Instr.findKey kt (a.eval y) dc.toList).run P w= .ok none w:=yG tL f2;refine .pure hm hl ho ?_ (KW (b:=false) yd);simp only[execOp,Ω,bL,Instr.lookup,Sem.run_bind,run_underlying hu,Result.andThen_ok,run_getObj_map h5,Sem.run_pure,cK,pE,Ru]
      ·rw[lR]at f1;cases f1;simp only[aN]at hr;obtain⟨rfl,rfl,rfl⟩:=hr;subst f5;have wo:=(h7 j f3 (by simpa using f4)).2;have pE:(Instr.findKey kt (a.eval y) dc.toList).run P w= .ok (some (0+j,dc.toList[j].val)) w:=yG tL f6;refine .pure hm hl ho ?_ (KW (b:=true) (eS _ _ _ wo));simp only[execOp,Ω,bL,Instr.lookup,Sem.run_bind,run_underlying hu,Result.andThen_ok,run_getObj_map h5,Sem.run_pure,cK,pE,l9]
     ·cases hr
    ·cases hr
   ·cases hr
  ·cases hc
 ·cases hc
theorem SE{k v:AV}:∀(es r:List (AV×AV)) (i:Nat),tP k v es=some r->(iZ k es=some none/\posOf k es i=none/\r=es++[(k,v)])∨
  ∃j v',iZ k es=some (some v')/\posOf k es i=some (i+j,v')/\(∃h:j<es.length,jj k es[j].1=some true)/\r=es.set j (k,v)
 |[],r,i,h=>by cases h;exact .inl ⟨rfl,rfl,rfl⟩
 |(k',v')::es,r,i,h=>by
  simp only[tP]at h;cases hk:jj k k' with
  |none=>rw[hk]at h;cases h
  |some t=>
   rw[hk]at h
   cases t with
   |true=>cases h;exact .inr ⟨0,v',by simp[iZ,hk],by simp[posOf,hk],⟨by simp,hk⟩,rfl⟩
   |false=>
    simp only[bH]at h
    obtain⟨r',h,rfl⟩:=h;rcases SE es r' (i+1) h with⟨h1,h2,rfl⟩|⟨j,v2,h1,h2,⟨h3,fe⟩,rfl⟩
    ·exact .inl ⟨by simp[iZ,hk,h1],by simp[posOf,hk,h2],rfl⟩
    ·exact .inr ⟨j+1,v2,by simp[iZ,hk,h1],by simp[posOf,hk,h2];omega,⟨by simpa using h3,by simpa using fe⟩,rfl⟩
theorem SA{k:AV}:∀(es r:List (AV×AV)) (i:Nat),wC k es=some r->(iZ k es=some none/\posOf k es i=none/\r=es)∨
  ∃j v',iZ k es=some (some v')/\posOf k es i=some (i+j,v')/\j<es.length/\r=es.eraseIdx j
 |[],r,i,h=>by cases h;exact .inl ⟨rfl,rfl,rfl⟩
 |(k',v')::es,r,i,h=>by
  simp only[wC]at h;cases hk:jj k k' with
  |none=>rw[hk]at h;cases h
  |some t=>
   rw[hk]at h
   cases t with
   |true=>cases h;exact .inr ⟨0,v',by simp[iZ,hk],by simp[posOf,hk],by simp,rfl⟩
   |false=>
    simp only[bH]at h
    obtain⟨r',h,rfl⟩:=h;rcases SA es r' (i+1) h with⟨h1,h2,rfl⟩|⟨j,v2,h1,h2,h3,rfl⟩
    ·exact .inl ⟨by simp[iZ,hk,h1],by simp[posOf,hk,h2],rfl⟩
    ·exact .inr ⟨j+1,v2,by simp[iZ,hk,h1],by simp[posOf,hk,h2];omega,by simpa using h3,rfl⟩
def ff(w:World)(b:Nat)(o:Obj):World:= {w with heap:=w.heap.setIfInBounds b o}
theorem Df(hm:a8 g own LC mem w)(hl:cA g lb own loc w)(ho:bV base own w){id b:Nat}{x:Obj}{blk:κ}(hb:own b=some (.m id))(hid:id<mem.ε.length)
  (cu:∀o,g.im b o=none) (sn:sX g own LC (ff w b x) id blk):
  iO base LC g lb own loc w .undef none (mem.put id blk true) undef (ff w b x):=by
 have iU:∀b',b'≠b->(ff w b x).heap[b']?=w.heap[b']?:=fun b' ak=>by simp only[ff];rw[Ic (Ne.symm ak)]
 refine⟨g,lb,own,⟨g.eG,by simp[ff],rfl,rfl,rfl,fun b' _ ho=>iU b' (by rintro rfl;rw[hb]at ho;cases ho),fun _ _ h=>h,fun _ _ _ _=>rfl⟩,fun _ _ _ h=>h,.undef _,?_,?_,?_⟩
 ·refine hm.H_ hid g.eG (fun _ h=>h) (fun _ _ _ h=>h) (fun mY b' ak bf=>⟨rfl,iU b' ?_,fun _=>rfl⟩) sn (fun b' o y hy=>?_)
  ·rintro rfl;rw[hb]at bf;cases bf;exact ak rfl
  ·have ak:b'≠b:=by rintro rfl;rw[cu]at hy;cases hy
   rw[ph (iU b' ak)];exact hm.im _ _ _ hy
 ·exact hl.bw g.eG fun d b' bf=>⟨rfl,iU b' (by rintro rfl;rw[hb]at bf;cases bf),fun _=>rfl⟩
 ·exact⟨fun b' o bf=>by simpa[ff]using ho.ge b' o bf,by simpa[ff]using ho.base⟩
theorem run_setObj_map{b:Nat}{dc:Array MapEntry}{clock:Nat}(h:w.heap[b]?=some (.map dc clock))(x:Obj):(setObj b x).run P w= .ok () (ff w b x):=by simp only[setObj,Sem.run,h];rfl
theorem At{b:Nat}{y:Obj}(h:w.heap[b]?=some y)(x:Obj):(ff w b x).heap[b]?=some x:=by have ρ:=(Array.getElem?_eq_some_iff.1 h).1;simp[ff,ρ]
end
mutual
theorem Bz(n:Nat)(k:Bool):∀v:AV,plain v=true->exp n k v=v
 | .undef,_=>rfl
 | .cR,_=>rfl
 | .int _ _,_=>rfl
 | .bool _,_=>rfl
 | .str _,_=>rfl
 | .iK,_=>rfl
 | .ae _ _ _,h=>by simp[plain]at h
 | .ν _ _,h=>by simp[plain]at h
 | .ref _,h=>by simp[plain]at h
 | .list c l,h=>by simp only[plain,jv,ahL,decide_eq_true_eq]at h;obtain⟨rfl|rfl,h⟩:=h<;>simp only[exp,χ.exp,Er n k l h]
 | .sl _ _ _ _ _,h=>by simp[plain]at h
 | .agg l,h=>by simp only[plain]at h;simp only[exp,Er n k l h]
 | .aP l,h=>by simp only[plain]at h;simp only[exp,Er n k l h]
 | .fn (.func f) [] [],_=>rfl
 | .fn (.func f) (_::_) _,h=>by simp[plain]at h
 | .fn (.func f) [] (_::_),h=>by simp[plain]at h
 | .fn (.method _) _ _,h=>by simp[plain]at h
 | .fn (.methodOf _ _) _ _,h=>by simp[plain]at h
 | .fn (.via _ _ _ _) _ _,h=>by simp[plain]at h
 | .fn (.yield _) _ _,h=>by simp[plain]at h
 | .eJ,_=>rfl
 | .iface t v,h=>by simp only[plain]at h;simp only[exp,Bz n k v h]
 | .fY,_=>rfl
 | .map _,h=>by simp[plain]at h
 | .fJ,_=>rfl
theorem Er(n:Nat)(k:Bool):∀l:List AV,rj l=true->bn n k l=l
 |[],_=>rfl
 |v::l,h=>by simp only[rj,jv]at h;simp only[bn,Bz n k v h.1,Er n k l h.2]
end
mutual
theorem Sv(n:Nat):∀v:AV,plain v=true->lo n v=true
 | .undef,_=>rfl
 | .cR,_=>rfl
 | .int _ _,_=>rfl
 | .bool _,_=>rfl
 | .str _,_=>rfl
 | .iK,_=>rfl
 | .ae _ _ _,h=>by simp[plain]at h
 | .ν _ _,h=>by simp[plain]at h
 | .ref _,h=>by simp[plain]at h
 | .list c l,h=>by simp only[plain,jv,ahL,decide_eq_true_eq]at h;obtain⟨rfl|rfl,h⟩:=h<;>simp only[lo,χ.lo,Hv n l h,vm]
 | .sl _ _ _ _ _,h=>by simp[plain]at h
 | .agg l,h=>by simp only[plain]at h;simp only[lo,Hv n l h]
 | .aP l,h=>by simp only[plain]at h;simp only[lo,Hv n l h]
 | .fn (.func f) [] [],_=>rfl
 | .fn (.func f) (_::_) _,h=>by simp[plain]at h
 | .fn (.func f) [] (_::_),h=>by simp[plain]at h
 | .fn (.method _) _ _,h=>by simp[plain]at h
 | .fn (.methodOf _ _) _ _,h=>by simp[plain]at h
 | .fn (.via _ _ _ _) _ _,h=>by simp[plain]at h
 | .fn (.yield _) _ _,h=>by simp[plain]at h
 | .eJ,_=>rfl
 | .iface t v,h=>by simp only[plain]at h;simp only[lo,Sv n v h]
 | .fY,_=>rfl
 | .map _,h=>by simp[plain]at h
 | .fJ,_=>rfl
theorem Hv(n:Nat):∀l:List AV,rj l=true->bp n l=true
 |[],_=>rfl
 |v::l,h=>by simp only[rj,jv]at h;simp only[bp,Sv n v h.1,Hv n l h.2,vm]
end
section
variable{P:Program}{base:Nat}{LC:eN}{g:Gh}{lb:LB}{own:OW}{loc:Nat->Option (Nat×κ)}{mem:Mem}{w:World}{bJ:Nat->Bool}{aF:cx}
variable{ev:bm->AV}{a:Act}{o:Oper}{ao:AO}{v:AV}{u:kZ}{m':Mem}
theorem VR.plain{v:AV}{x:Value}(h:VR g lb v x)(hp:plain v=true):VR g bS v x:=by
 have h1:=VR.exp (lb':=bS) 0 true h;rw[Bz 0 true v hp]at h1;have hs:(g.cut 0).sub g:=by
  refine⟨fun _ _ _ h=>h,fun id b hb=>?_,fun t n x hx=>?_⟩
  ·simp[Gh.cut]at hb
  ·simp[Gh.cut]at hx
 exact VR.sub hs h1
theorem acN{kk:KK}{k:AV}{x:Value}(h:VR g lb k x)(hk:isKey kk k=true):VR g bS k x:=by refine h.plain ?_;cases kk<;>cases k<;>simp_all [isKey,ah.plain]
theorem afW{lb':LB}{k k':AV}{x x':Value}(h:VR g lb k x)(h':VR g lb' k' x')(he:jj k k'=some true):∀n,Instr.sameBits n x' x=true:=by
 intro n;cases k<;>cases k'<;>simp[jj]at he
 ·cases h;cases h';obtain⟨rfl,rfl⟩:=he;cases n<;>simp[Instr.sameBits]
 ·cases h;cases h';subst he;cases n<;>simp[Instr.sameBits]
 ·cases h;cases h';rename_i b1 h1 b2 h2;subst he;have:b2.data.toList=b1.data.toList:=SG (h2.trans h1.symm);have hb:b2=b1:=by obtain⟨⟨l1⟩⟩:=b1;obtain⟨⟨l2⟩⟩:=b2;simp at this;subst this;rfl
  subst hb;have:(b2==b2)=true:=by rw[beq_toListBytes];simp
  cases n<;>simp[Instr.sameBits,this]
theorem RI{kk:KK}{k:AV}(hk:isKey kk k=true):plain k=true:=by unfold isKey at hk;split at hk<;>first|rfl|(cases hk;done)
theorem SW(ax:eM g lb ev a)(hm:a8 g own LC mem w)(hl:cA g lb own loc w)(ho:bV base own w){t:TypeId}{x y z:Operand}(Ω:o.op= .mapUpdate t x y z)
  (hc:bE P bJ o=some ao) (hr:aC ev loc mem aF o.dst ao=some (v,u,m')):eE P base LC g lb own loc w a o v u m':=by
 simp only[bE,Ω]at hc;split at hc
 ·rename_i kt et x' y' z' hu hx hy hz;simp only[bH]at hc;obtain⟨kk,pH,rfl⟩:=hc;simp only[aC]at hr;split at hr
  ·rename_i id e1;split at hr
   ·rename_i es he;split at hr
    ·rename_i jG;simp only[jv]at jG;obtain⟨mT,bW⟩:=jG;simp only[bH,aN]at hr;obtain⟨eI,Kf,rfl,rfl,rfl⟩:=hr;have k1:=ax _ _ hx;rw[e1]at k1;obtain⟨xv,bL⟩:∃xv,a.eval x=xv:=⟨_,rfl⟩;rw[bL]at k1;obtain⟨b,dc,clock,rfl,h2,h3,h4,h5,h6,h7,h8⟩:=Hy hm k1 he;have hid:id<mem.ε.length:=hm.iR id b h2;obtain⟨cK,d,tL,kz⟩:=Hd (P:=P) (w:=w) pH mT (ax _ _ hy) false;have QX:=acN (ax _ _ hy) mT;have yd:=(ax _ _ hz).plain bW;have nH:=SE es eI 0 Kf;have mB:=Ev kz es dc.toList 0 (by simpa using h6.symm) (fun j h h'=>by have:=h7 j h (by simpa using h');simpa using this) (by rcases nH with⟨h,_⟩|⟨_,_,h,_⟩<;>rw[h]<;>simp);rcases nH with⟨f1,f2,rfl⟩|⟨j,v',f1,f2,f3,rfl⟩
     ·have g2:Instr.findNow d (a.eval y) dc.toList 0=some none:=by
       rcases mB with⟨_,g2,_⟩|⟨j,v',g1,_⟩
       ·exact g2
       ·rw[f1]at g1;cases g1
      have pE:(Instr.findKey kt (a.eval y) dc.toList).run P w= .ok none w:=yG tL g2;refine⟨undef,ff w b (.map (dc.push {key:=a.eval y,val:=a.eval z,born:=clock}) (clock+1)),.inr ⟨?_,rfl⟩,Df hm hl ho h3 hid h4 ?_⟩
      ·simp only[execOp,Ω,bL,Instr.mapUpdate,Sem.run_bind,run_underlying hu,Result.andThen_ok,run_getObj_map h5,cK,pE,run_setObj_map h5];rfl
      ·refine⟨b,h2,h3,h4,_,_,At h5 _,by simp[h6],fun i hi aj=>?_,fun p hp=>?_⟩;rcases Nat.lt_or_ge i es.length with ρ|cG
       ·have dq:i<dc.size:=by omega
        simp only[List.getElem_append_left ρ,ahM,dq,dite_true];exact h7 i ρ dq
       ·have oa:i=es.length:=by simp at hi;omega
        subst oa;have:¬es.length<dc.size:=by omega
        simp only[List.getElem_append_right (bF _),Nat.sub_self,me,ahM,this,dite_false];exact⟨QX,yd⟩
       ·rcases dE.1 hp with hp|hp
        ·exact h8 p hp
        ·obtain rfl:p=_:=by simpa using hp
         exact⟨RI mT,bW⟩
     ·obtain⟨hj,KA⟩:=f3;obtain⟨dp,pE⟩:∃dp:j<dc.size,(Instr.findKey kt (a.eval y) dc.toList).run P w= .ok (some (j,dc[j].val)) w:=by
       rcases mB with⟨g1,_⟩|⟨j2,v2,g1,g2,g3,g4,g5,g6⟩
       ·rw[f1]at g1;cases g1
       ·rw[f2]at g2;simp only[aZ,aN,jz]at g2;obtain⟨rfl,-⟩:=g2;refine⟨by simpa using g4,?_⟩;have:=yG (P:=P) (w:=w) tL g6;simpa using this
      have G5:=afW (ax _ _ hy) (h7 j hj dp).1 KA 10000;refine⟨undef,ff w b (.map (dc.modify j fun e=> {e with key:=a.eval y,val:=a.eval z}) clock),.inr ⟨?_,rfl⟩,Df hm hl ho h3 hid h4 ?_⟩
      ·simp only[execOp,Ω,bL,Instr.mapUpdate,Sem.run_bind,run_underlying hu,Result.andThen_ok,run_getObj_map h5,cK,pE,vj dp,qv,Option.getD_some,Instr.keyThatStays,G5,if_true,Sem.run_pure,run_setObj_map h5]
      ·refine⟨b,h2,h3,h4,_,_,At h5 _,by simp[h6],fun i hi aj=>?_,fun p hp=>?_⟩;have oa:i<es.length:=by simpa using hi
       have Ks:i<dc.size:=by omega
       simp only[List.getElem_set,Array.getElem_modify];by_cases nG:j=i
       ·subst nG;simp only[if_true];exact⟨QX,yd⟩
       ·simp only[nG,if_false];exact h7 i oa Ks
       ·rcases List.mem_or_eq_of_mem_set hp with hp|rfl
        ·exact h8 p hp
        ·exact⟨RI mT,bW⟩
    ·cases hr
   ·cases hr
  ·cases hr
 ·cases hc
theorem SY(hm:a8 g own LC mem w)(hl:cA g lb own loc w)(ho:bV base own w){t:TypeId}(Ω:o.op= .makeMap t none)
  (hc:bE P bJ o=some ao) (hr:aC ev loc mem aF o.dst ao=some (v,u,m')):eE P base LC g lb own loc w a o v u m':=by
 simp only[bE,Ω]at hc;cases hc;simp only[aC,aZ,aN]at hr;obtain⟨rfl,rfl,rfl⟩:=hr;let g':Gh:= {g with mb:=fun id=>if id=mem.ε.length then some w.heap.size else g.mb id};have dH:g.sub g':=⟨fun _ _ _ h=>h,fun id b hb=>by
  have:=hm.iR id b hb
  simp only[g'];rw[if_neg (by omega)];exact hb,fun _ _ _ h=>h⟩
 have ψ:=dZ.alloc g own w (.map #[] 0) (some (.m mem.ε.length));refine⟨.map (some w.heap.size),w.alloc (.map #[] 0),.inl ?_,g',lb,_,⟨dH,ψ.size,ψ.os,ψ.tape,ψ.output,ψ.bw,ψ.jO,ψ.im⟩,fun _ _ _ h=>h,.map _ _ _ (by simp[g']),?_,?_,ho.alloc _ _⟩
 ·simp only[execOp,Ω,ahI,Instr.makeMap,Sem.run_bind,run_newObj,Result.andThen_ok,Sem.run_pure];rfl
 ·refine hm.push (hm.alloc ho _ _) _ _ (fun id b hb=>?_) (fun id hid=>?_) ?_
  ·split at hb
   ·exact .inr (by assumption)
   ·exact .inl hb
  ·exact if_neg (by omega)
  ·exact⟨w.heap.size,by simp,by simp[gq],(show∀o,g.im w.heap.size o=none from wv hm),#[],0,pB w _,rfl,fun i h=>by simp at h,fun p hp=>by cases hp⟩
 ·exact(hl.alloc ho _ _).bw dH fun _ _ _=>⟨rfl,rfl,fun _=>rfl⟩
theorem adX(ax:eM g lb ev a)(hm:a8 g own LC mem w)(hl:cA g lb own loc w)(ho:bV base own w){c:Call}(Ω:o.op= .call c)(hb:c.callee= .builtin .delete)
  (hc:bE P bJ o=some ao) (hr:aC ev loc mem aF o.dst ao=some (v,u,m')):eE P base LC g lb own loc w a o v u m':=by
 simp only[bE,Ω,hb]at hc;split at hc
 ·rename_i x y t ts jd uO;split at hc
  ·rename_i kt et x' y' hu hx hy;simp only[bH]at hc;obtain⟨kk,pH,rfl⟩:=hc;have oN:(c.args.map a.eval)= #[a.eval x,a.eval y]:=by
    have:(c.args.map a.eval).toList=[a.eval x,a.eval y]:=by simp[jd]
    rw[<-wV (xs:=c.args.map a.eval),this]
   have qT:c.argTypes[0]?=some t:=by rw[<-Array.getElem?_toList,uO];rfl
   simp only[aC]at hr;split at hr
   ·rename_i id e1;split at hr
    ·rename_i es he;split at hr
     ·rename_i mT;simp only[bH,aN]at hr;obtain⟨eI,Kf,rfl,rfl,rfl⟩:=hr;have k1:=ax _ _ hx;rw[e1]at k1;obtain⟨xv,bL⟩:∃xv,a.eval x=xv:=⟨_,rfl⟩;rw[bL]at k1;obtain⟨b,dc,clock,rfl,h2,h3,h4,h5,h6,h7,h8⟩:=Hy hm k1 he;have hid:id<mem.ε.length:=hm.iR id b h2;obtain⟨cK,d,tL,kz⟩:=Hd (P:=P) (w:=w) pH mT (ax _ _ hy) dc.isEmpty;have nH:=SA es eI 0 Kf;have mB:=Ev kz es dc.toList 0 (by simpa using h6.symm) (fun j h h'=>by have:=h7 j h (by simpa using h');simpa using this) (by rcases nH with⟨h,_⟩|⟨_,_,h,_⟩<;>rw[h]<;>simp);rcases nH with⟨f1,f2,rfl⟩|⟨j,v',f1,f2,hj,rfl⟩
      ·have g2:Instr.findNow d (a.eval y) dc.toList 0=some none:=by
        rcases mB with⟨_,g2,_⟩|⟨j,v',g1,_⟩
        ·exact g2
        ·rw[f1]at g1;cases g1
       have pE:(Instr.findKey kt (a.eval y) dc.toList).run P w= .ok none w:=yG tL g2;refine⟨undef,ff w b (.map dc clock),.inl ?_,Df hm hl ho h3 hid h4 ⟨b,h2,h3,h4,_,_,At h5 _,h6,h7,h8⟩⟩;simp only[execOp,Ω,resolve,hb,oN,Sem.run_bind,Sem.run_pure,Result.andThen_ok,invoke,builtin,Builtin.delete_,qT,bL];simp[run_underlying hu,run_getObj_map h5,cK,pE,run_setObj_map h5,undef]
      ·obtain⟨dp,pE⟩:∃dp:j<dc.size,(Instr.findKey kt (a.eval y) dc.toList).run P w= .ok (some (j,dc[j].val)) w:=by
        rcases mB with⟨g1,_⟩|⟨j2,v2,g1,g2,g3,g4,g5,g6⟩
        ·rw[f1]at g1;cases g1
        ·rw[f2]at g2;simp only[aZ,aN,jz]at g2;obtain⟨rfl,-⟩:=g2;refine⟨by simpa using g4,?_⟩;have:=yG (P:=P) (w:=w) tL g6;simpa using this
       refine⟨undef,ff w b (.map (dc.eraseIdxIfInBounds j) clock),.inl ?_,Df hm hl ho h3 hid h4 ⟨b,h2,h3,h4,_,_,At h5 _,?_,fun i hi aj=>?_,fun p hp=>h8 p (List.mem_of_mem_eraseIdx hp)⟩⟩
       ·simp only[execOp,Ω,resolve,hb,oN,Sem.run_bind,Sem.run_pure,Result.andThen_ok,invoke,builtin,Builtin.delete_,qT,bL];simp[run_underlying hu,run_getObj_map h5,cK,pE,run_setObj_map h5,undef]
       ·have e1:(dc.eraseIdxIfInBounds j).size=dc.size-1:=by simp[ahN,dp]
        rw[e1,ahO hj,h6]
       ·have e1:(dc.eraseIdxIfInBounds j)=dc.eraseIdx j dp:=by simp[ahN,dp]
        have oa:i<es.length-1:=by rw[ahO hj]at hi;exact hi
        simp only[e1,List.getElem_eraseIdx,Array.getElem_eraseIdx];by_cases nG:i<j
        ·simp only[nG,dite_true];exact h7 i (by omega) (by omega)
        ·simp only[nG,dite_false];exact h7 (i+1) (by omega) (by omega)
     ·cases hr
    ·cases hr
   ·cases hr
  ·cases hc
 ·cases hc
theorem aed(ax:eM g lb ev a)(hm:a8 g own LC mem w)(hl:cA g lb own loc w)(ho:bV base own w){t:TypeId}{x:Operand}(Ω:o.op= .range t x)
  (hc:bE P bJ o=some ao) (hr:aC ev loc mem aF o.dst ao=some (v,u,m')):eE P base LC g lb own loc w a o v u m':=by
 simp only[bE,Ω]at hc;split at hc
 ·rename_i x' hu hx;cases hc;simp only[aC]at hr;split at hr
  ·rename_i s d e1 e2;simp only[aZ,aN]at hr;obtain⟨rfl,rfl,rfl⟩:=hr;have k1:=ax _ _ hx;rw[e1]at k1;obtain⟨xv,bL⟩:∃xv,a.eval x=xv:=⟨_,rfl⟩;rw[bL]at k1;cases k1 with
   |str _ bs _ eU=>
    refine⟨.pointer (some ⟨w.heap.size,0,none⟩),w.alloc (.stringIter bs 0),.inl ?_,g,sF lb d (aR loc d) w.heap.size,_,.alloc g own w _ (some (.l d)),Hr hl d _,.ae _ _ _ _ _ (by simp[sF]),hm.alloc ho _ _,?_,ho.alloc _ _⟩
    ·simp only[execOp,Ω,bL,Instr.range,Sem.run_bind,run_underlying hu,Result.andThen_ok,Sem.run_pure,run_newObj];rfl
    ·refine hl.new ho d _ _ (fun l' gV=>by cases gV) (fun s' pos h=>?_);cases h;exact⟨wv hm,bs,rfl,eU⟩
  ·cases hr
 ·cases hc
theorem TJ{b:Nat}{bs:ByteArray}{pos:Nat}(h:w.heap[b]?=some (.stringIter bs pos)):(getObj b).run P w= .ok (.stringIter bs pos) w:=by simp only[getObj,Sem.run,h]
theorem afz{b:Nat}{bs:ByteArray}{pos:Nat}(h:w.heap[b]?=some (.stringIter bs pos))(x:Obj):(setObj b x).run P w= .ok () (ff w b x):=by simp only[setObj,Sem.run,h];rfl
theorem VI{bs:ByteArray}{s:List Nat}(h:bs.data.toList.map UInt8.toNat=s):(⟨(s.map UInt8.ofNat).toArray⟩:ByteArray)=bs:=by subst h;obtain⟨⟨l⟩⟩:=bs;simp[c6,Function.comp_def]
theorem aeb(ax:eM g lb ev a)(hm:a8 g own LC mem w)(hl:cA g lb own loc w)(ho:bV base own w){x:Operand}(Ω:o.op= .next x true)
  (hc:bE P bJ o=some ao) (hr:aC ev loc mem aF o.dst ao=some (v,u,m')):eE P base LC g lb own loc w a o v u m':=by
 simp only[bE,Ω,bH]at hc;obtain⟨x',hx,rfl⟩:=hc;simp only[aC]at hr;split at hr
 ·rename_i d vh e1;split at hr
  ·rename_i v' s pos hd;split at hr
   ·rename_i hv;subst hv;have k1:=ax _ _ hx;rw[e1]at k1;obtain⟨xv,bL⟩:∃xv,a.eval x=xv:=⟨_,rfl⟩;rw[bL]at k1;cases k1 with
    |ae _ _ _ _ b hb=>
     obtain⟨b',bf,ib,cu,bs,eU,hs⟩:=hl.iter d _ s pos hd
     rw[hb]at bf;cases bf;have hlen:=Dh hs;split at hr
     ·rename_i jh;simp only[aZ,aN,VI hs]at hr;obtain⟨rfl,rfl,rfl⟩:=hr;have iU:∀b',b'≠b->(ff w b (.stringIter bs (pos+(Utf8.decode bs pos).2))).heap[b']?=w.heap[b']?:=fun b' ak=>by simp only[ff];rw[Ic (Ne.symm ak)]
      refine⟨.tuple #[.bool true,.int .i64 pos,.int .i32 (Utf8.decode bs pos).1],ff w b (.stringIter bs (pos+(Utf8.decode bs pos).2)),.inl ?_,g,lb,own,
       ⟨g.eG,by simp[ff],rfl,rfl,rfl,fun b' _ ho=>iU b' (by rintro rfl;rw[ib]at ho;cases ho),fun _ _ h=>h,fun _ _ _ _=>rfl⟩,fun _ _ _ h=>h,?_,?_,?_,?_⟩
      ·simp only[execOp,Ω,bL,Instr.next,Sem.run_bind,TJ eU,Result.andThen_ok];rw[if_pos (by rw[hlen];exact jh)];simp only[Sem.run_bind,afz eU,Result.andThen_ok,Sem.run_pure];rfl
      ·refine .aP _ _ _ rfl fun i hi aj=>?_
       match i,hi with
       |0,_=>exact .bool _ _
       |1,_=>exact .int _ _ _
       |2,_=>exact .int _ _ _
      ·refine hm.bw g.eG (fun _ h=>h) (fun _ _ h=>h) (fun id b' bf=>⟨rfl,iU b' ?_,fun _=>rfl⟩) (fun b' o y hy=>?_)
       ·rintro rfl;rw[ib]at bf;cases bf
       ·have ak:b'≠b:=by rintro rfl;rw[cu]at hy;cases hy
        rw[ph (iU b' ak)];exact hm.im _ _ _ hy
      ·have fM:(ff w b (.stringIter bs (pos+(Utf8.decode bs pos).2))).heap[b]?=some (.stringIter bs (pos+(Utf8.decode bs pos).2)):=At eU _;refine⟨fun d' i l' je=>?_,fun d' i s' pos' je=>?_,fun d' i b' bf=>?_⟩
       ·simp only[nk]at je;split at je
        ·cases je
        ·rename_i gm;obtain⟨b2,q1,q2⟩:=hl.cells d' i l' je;have ak:b2≠b:=by rintro rfl;have:=q2.1;rw[ib]at this;cases this;exact gm rfl
         exact⟨b2,q1,q2.bw g.eG (fun _ _ _ h=>h) rfl (iU b2 ak) fun _=>rfl⟩
       ·simp only[nk]at je;split at je
        ·rename_i gm;subst gm;cases je;exact⟨b,hb,ib,cu,bs,fM,hs⟩
        ·rename_i gm;obtain⟨b2,q1,q2,q3,VE,q4,q5⟩:=hl.iter d' i s' pos' je;have ak:b2≠b:=by rintro rfl;rw[ib]at q2;cases q2;exact gm rfl
         exact⟨b2,q1,q2,q3,VE,(iU b2 ak).trans q4,q5⟩
       ·obtain⟨v2,IJ,q1,q2⟩:=hl.vh d' i b' bf;by_cases gm:d=d'
        ·subst gm;rw[hd]at q1;cases q1;exact⟨_,.iter s (pos+(Utf8.decode bs pos).2),by simp[nk],q2⟩
        ·exact⟨v2,IJ,by simp[nk,gm,q1],q2⟩
      ·exact⟨fun b' o bf=>by simpa[ff]using ho.ge b' o bf,by simpa[ff]using ho.base⟩
     ·rename_i jh;simp only[aZ,aN]at hr;obtain⟨rfl,rfl,rfl⟩:=hr;refine .pure hm hl ho (x:= .tuple #[.bool false]) ?_ (.aP _ _ _ rfl fun i hi aj=>by
       match i,hi with
       |0,_=>exact .bool _ _)
      simp only[execOp,Ω,bL,Instr.next,Sem.run_bind,TJ eU,Result.andThen_ok];rw[if_neg (by rw[hlen];exact jh)];rfl
   ·cases hr
  ·cases hr
 ·cases hr
end
end Go.ah
