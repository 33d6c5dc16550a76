import Derived.Test.YtiigojkfojnedaaGreatDoorPA
import Derived.Laws.StructEq
import Derived.Laws.Build
set_option linter.unusedVariables false
set_option linter.unusedSimpArgs false
open List renaming map_cons->ah,getElem_drop->w_,extract_eq_take_drop->NC,mem_of_mem_drop->rL,mem_of_mem_take->oe,mem_iff_getElem->qH,length_cons->dO,getElem_cons_zero->mY,mem_append->eL,getElem?_eq_getElem->eo,getElem_mem->cz,getElem?_eq_some_iff->lx,all_eq_true->gz,drop_of_length_le->ahM,mem_map->jv,map_map->di,length_eraseIdx_of_lt->ahR
open Nat renaming add_assoc->vz,add_zero->um,mul_le_mul_right->rQ,add_mul->kV,le_refl->bQ,zero_le->oY,zero_add->ly
open Array renaming getElem_toList->mz,toList_extract->ahI,length_toList->vp,foldl_toList->ahJ,toList_zipIdx->ahK,getElem?_eq_getElem->vo,range->ahN,toArray_toList->wZ,getElem?_setIfInBounds_ne->Iu,getElem_push->ahP,eraseIdxIfInBounds->ahQ
open Option renaming map_eq_some_iff->bL,map_some->rR,map_none->ahL
open Option.some renaming injEq->bj
open Prod.mk renaming injEq->aL
open Bool renaming false_eq_true->hS,and_eq_true->kj,or_eq_true->ahO,and_self->vq
namespace Go.ab
section
variable{P:Program}{g:Gh}{lb:LB}{w:World}
theorem Tr{a b:List UInt8}(h:a.map UInt8.toNat=b.map UInt8.toNat):a=b:=by
 induction a generalizing b with
 |nil=>cases b with
  |nil=>rfl
  |cons=>simp at h
 |cons x a ih=>cases b with
  |nil=>simp at h
  |cons y b=>
   simp only[ah,List.cons.injEq]at h
   rw[UInt8.toNat_inj.1 h.1,ih h.2]
theorem adL(a b:List UInt8):wL (a.map UInt8.toNat) (b.map UInt8.toNat)=Op.bytesLess a b:=by
 induction a generalizing b with
 |nil=>cases b<;>rfl
 |cons x a ih=>
  cases b with
  |nil=>rfl
  |cons y b=>
   simp only[ah,wL,Op.bytesLess,ih]
   congr 1;congr 1;by_cases h:x=y
   ·subst h;simp
   ·have:x.toNat≠y.toNat:=fun e=>h (UInt8.toNat_inj.1 e);simp[h,this]
theorem Ng{a b:ByteArray}{s t:List Nat}(ha:a.data.toList.map UInt8.toNat=s)(hb:b.data.toList.map UInt8.toNat=t):(a.toList==b.toList)=decide (s=t):=by
 rw[ByteArray.toList_eq,ByteArray.toList_eq];subst ha hb;by_cases h:a.data.toList=b.data.toList
 ·rw[h];simp
 ·have h2:a.data.toList.map UInt8.toNat≠b.data.toList.map UInt8.toNat:=fun e=>h (Tr e);rw[decide_eq_false h2];exact beq_eq_false_iff_ne.2 h
theorem Dk{a:ByteArray}{s:List Nat}(ha:a.data.toList.map UInt8.toNat=s):a.size=s.length:=by subst ha;simp
theorem Vm{op:BinOp}{k:IntKind}{a b:Int}{v:AV}(h:hU op k a b=some v):
  ∃x,(match op with
   | .add| .sub| .mul=>Op.intArith op k a b
   | .quo| .rem=>Op.intDiv op k a b
   | .and| .or| .xor| .andNot=>Op.intBits op k a b
   |_=>Op.intCmp op a b).run P w= .ok x w/\VR g lb v x:=by
 cases op<;>simp only[hU]at h
 case quo=>
  split at h
  ·cases h
  ·rename_i hb;cases h;exact⟨_,by simp[Op.intDiv,hb],.int _ _ _⟩
 case rem=>
  split at h
  ·cases h
  ·rename_i hb;cases h;exact⟨_,by simp[Op.intDiv,hb],.int _ _ _⟩
 all_goals first|(cases h;done)|(cases h;first|exact⟨_,rfl,.int _ _ _⟩|exact⟨_,rfl,.bool _ _⟩)
theorem Vn{op:BinOp}{a b:ByteArray}{s t:List Nat}{v:AV}(ha:a.data.toList.map UInt8.toNat=s)(hb:b.data.toList.map UInt8.toNat=t)(h:bF op s t=some v):
  ∃x,(Op.stringOp op a b).run P w= .ok x w/\VR g lb v x:=by
 have he:=Ng ha hb;have hl:wL s t=Op.bytesLess a.toList b.toList:=by rw[ByteArray.toList_eq,ByteArray.toList_eq,<-adL,ha,hb]
 have hs:(a.size+b.size:Nat)=s.length+t.length:=by rw[Dk ha,Dk hb]
 cases op<;>simp only[bF]at h
 case add=>
  split at h
  ·cases h
  ·rename_i hc;cases h;rw[<-hs]at hc;refine⟨.string (a++b),by simp only[Op.stringOp,if_neg hc];rfl,.str _ _ _ ?_⟩;rw[<-ha,<-hb];simp
 all_goals first|(cases h;done)|(cases h;exact⟨_,by simp only[Op.stringOp,he,hl];rfl,.bool _ _⟩)
theorem run_equalIn_bool(d:Nat){t:TypeId}(hu:P.underlying t=some .bool)(a b:Bool):(Op.equalIn (d+1) t (.bool a) (.bool b)).run P w= .ok (a==b) w:=by simp only[Op.equalIn,Sem.run_bind,run_underlying hu,Result.andThen_ok];rfl
theorem Vl{op:BinOp}{t:TypeId}{x y:AV}{xv yv:Value}{v:AV}(hx:VR g lb x xv)(hy:VR g lb y yv)(h:gS op x y=some v):
  ∃r,(binOp op t xv yv).run P w= .ok r w/\VR g lb v r:=by
 unfold gS at h;split at h
 ·rename_i k a k' b;cases hx;cases hy;cases op
  case shl=>
   dsimp only at h
   split at h
   ·cases h
   ·rename_i hc;cases h;exact⟨_,by simp[binOp,Op.shift,hc],.int _ _ _⟩
  case shr=>
   dsimp only at h
   split at h
   ·cases h
   ·rename_i hc;cases h;exact⟨_,by simp[binOp,Op.shift,hc],.int _ _ _⟩
  all_goals
   dsimp only at h;split at h
   ·rename_i hk;subst hk;obtain⟨r,h1,h2⟩:=Vm (P:=P) (w:=w) (g:=g) (lb:=lb) h;exact⟨r,by simpa[binOp]using h1,h2⟩
   ·cases h
 ·cases hx;cases hy;rename_i ha _ aX;obtain⟨r,h1,h2⟩:=Vn (P:=P) (w:=w) (g:=g) (lb:=lb) ha aX h;exact⟨r,by cases op<;>simpa[binOp]using h1,h2⟩
 ·cases h
theorem Vo{op:UnOp}{x:AV}{xv:Value}{v:AV}(hx:VR g lb x xv)(h:hZ op x=some v):∃r,(Op.unary op xv).run P w= .ok r w/\VR g lb v r:=by
 unfold hZ at h;split at h
 ·cases hx;cases h;exact⟨_,rfl,.int _ _ _⟩
 ·cases hx;cases h;exact⟨_,rfl,.bool _ _⟩
 ·cases h
theorem TO{p:AV}{x:Value}{off:Nat}{v:AV}(hx:VR g lb p x)(h:hH p off=some v):∃a:Addr,x= .pointer (some a)/\VR g lb v (.pointer (some (a.add off))):=by
 unfold hH at h;split at h
 ·cases hx;rename_i b hb;cases h;exact⟨_,rfl,by rw[Addr.add_mid];exact .Ω _ _ _ _ _ hb⟩
 ·cases hx;rename_i b hb;cases h;exact⟨_,rfl,by rw[Addr.add_mid];exact .μ _ _ _ _ hb⟩
 ·split at h
  ·rename_i l hle;cases hx;rename_i b o xs cJ hv;cases h;refine⟨_,rfl,?_⟩;rw[Addr.add_mid];refine .ref _ _ b (o+off) (fun i=>xs (off+i)) (fun i hi=>?_) (fun i hi=>?_)
   ·have:=cJ (off+i) (by simp at hi;omega);rwa[<-vz]at this
   ·simp only[w_];exact hv (off+i) (by simp at hi;omega)
  ·cases h
 ·cases h
theorem IS{ag:Bool}{l:List AV}{a:Array Value}{v:AV}(hp:PW (VR g lb) l a.toList)(h1:∀v∈a.toList,v.oneCell'=true)(h:gg ag l=some v):
  (ag=true->VR g lb v (.agg a))/\(ag=false->∃x,a= #[x]/\VR g lb v x):=by
 have hlen:l.length=a.size:=by simpa using hp.1
 unfold gg at h;split at h
 ·rename_i l7;cases h;refine⟨fun _=> .agg _ _ _ hlen.symm (fun i hi=>h1 _ (by simp)) (fun i hi ae=>by have:=hp.2 i hi (by simpa using ae);rwa[mz]at this),fun hf=>by rw[l7]at hf;cases hf⟩
 ·rename_i l7;unfold single at h;split at h
  ·cases h;refine⟨fun hf=>absurd hf l7,fun _=>?_⟩;obtain⟨xs⟩:=a
   match xs,hlen with
   |[x],_=>exact⟨x,rfl,hp.2 0 (by simp) (by simp)⟩
  ·cases h
theorem TP{l:List AV}{a:Array Value}{t:TypeId}{off n:Nat}{ag:Bool}{v:AV}(hl:VR g lb (.agg l) (.agg a))(hle:off+n<=l.length)
  (l7:(isAgg t).run P w= .ok ag w) (bm:(sizeOf t).run P w= .ok n w) (h:gg ag ((l.drop off).take n)=some v):∃r,(part t a off).run P w= .ok r w/\VR g lb v r:=by
 cases hl with
 |agg _ _ _ hs h1 hv=>
 have ny:PW (VR g lb) l a.toList:=⟨by simpa using hs.symm,fun i hi ae=>by simpa using hv i hi (by simpa using ae)⟩
 have hp:PW (VR g lb) ((l.drop off).take n) (a.extract off (off+n)).toList:=by have:=(ny.drop off).take n;simpa[ahI,NC]using this
 have fL:∀v∈(a.extract off (off+n)).toList,v.oneCell'=true:=by
  intro v nA;have:v∈a.toList:=by rw[ahI,NC]at nA;exact rL (oe nA)
  obtain⟨i,hi,rfl⟩:=qH.1 this;simpa using h1 i (by simpa using hi)
 obtain⟨k1,k2⟩:=IS hp fL h;cases ag with
 |true=>exact⟨_,by simp[part,l7,bm],k1 rfl⟩
 |false=>
  obtain⟨x,hx,hvx⟩:=k2 rfl
  have uT:(a.extract off (off+n)).size=1:=by rw[hx];rfl
  have hn:n=1:=by simp at uT;omega
  subst hn;have z7:a[off]?=some x:=by
   have h0:=congrArg (fun z:Array Value=>z[0]?) hx;have ν:off<a.size:=by omega
   simp only[Array.getElem?_extract]at h0;rw[if_pos (by omega)]at h0;simpa using h0
  exact⟨x,by simp[part,l7,z7],hvx⟩
def NK.fits(P:Program)(t:TypeId):NK->Value->Prop
 | .ptr,v=>(∃e,P.underlying t=some (.pointer e))/\v= .pointer none
 | .slice,v=>(∃e,P.underlying t=some (.slice e))/\v= .slice none 0 0
 | .fn,v=>(∃a b c,P.underlying t=some (.func a b c))/\v= .nilFunc
 | .iface,v=>(∃m,P.underlying t=some (.interface m))/\v= .nilIface
 | .map,v=>(∃k e,P.underlying t=some (.map k e))/\v= .map none
theorem aaW{t:TypeId}{k:NK}{x:AV}{xv Mv:Value}{r:Bool}(hx:VR g lb x xv)(h:isNil k x=some r)(ht:k.fits P t Mv):
  (Op.equal t xv Mv).run P w= .ok r w:=by
 have key:∀d,(Op.equalIn (d+1) t xv Mv).run P w= .ok r w:=by
  intro d;unfold isNil at h;split at h<;>first|(cases h;done)|skip
  all_goals cases h
  all_goals first
   |(obtain⟨⟨e,hu⟩,rfl⟩:=ht;cases hx<;>first|(simp only[Op.equalIn,Sem.run_bind,run_underlying hu,Result.andThen_ok];rfl)|(exfalso;simp_all [nN];done))
   |(obtain⟨⟨e,e',hu⟩,rfl⟩:=ht;cases hx<;>(simp only[Op.equalIn,Sem.run_bind,run_underlying hu,Result.andThen_ok];rfl))
   |(obtain⟨⟨e,e',e'',hu⟩,rfl⟩:=ht;cases hx<;>(simp only[Op.equalIn,Sem.run_bind,run_underlying hu,Result.andThen_ok];rfl))
 exact key 9999
end
def DL:Value->Option AV
 | .bool b=>some (.bool b)
 | .int k n=>some (.int k n)
 | .string s=>some (.str (s.data.toList.map UInt8.toNat))
 | .pointer none=>some .iR
 | .slice none 0 0=>some (.list .nil [])
 | .map none=>some .fP
 | .nilFunc=>some .eU
 | .nilIface=>some .ga
 |_=>none
def DM:List Value->Option (List AV)
 |[]=>some []
 |v::l=>match DL v,DM l with
  |some a,some m=>some (a::m)
  |_,_=>none
def A9:Value->Option AV
 | .agg cs=>(DM cs.toList).map .agg
 | .tuple a=>if a.size=0 then some .undef else none
 | .func (.func f) a b=>if a.size=0/\b.size=0 then some (.fn (.func f) [] [])else none
 |v=>DL v
def cG:Operand->Option bp
 | .tmp t=>some (.t t)
 | .const v=>(A9 v).map .c
 | .global g=>some (.g g)
 | .func f=>some (.c (.fn (.func f) [] []))
def vC:List Operand->Option (List bp)
 |[]=>some []
 |x::l=>match cG x,vC l with
  |some a,some m=>some (a::m)
  |_,_=>none
section
variable(P:Program)
def kS(t:TypeId):Option Nat:=match P.info? t with
 |some i=>if 0<i.size then some i.size else none
 |none=>none
def vj(t:TypeId):Option Bool:=match P.underlying t with
 |some (.struct _)=>some true
 |some (.array _ _)=>some true
 |some _=>some false
 |none=>none
def ud(t:TypeId):Option (List AV):=match P.info? t with
 |some i=>match i.zero with
  |some z=>match A9 z with
   |some v=>if 0<i.size/\z.cells.size=i.size/\v.cells.length=i.size then some v.cells else none
   |none=>none
  |none=>none
 |none=>none
def UZ(t:TypeId):Option AV:=match P.info? t with
 |some i=>match i.zero with
  |some z=>A9 z
  |none=>none
 |none=>none
def Ip(s:TypeId)(f:Nat):Option (Nat×TypeId):=match P.underlying s with
 |some (.struct fields)=>match fields[f]? with
  |some fd=>some (fd.offset,fd.type)
  |none=>none
 |_=>none
def places:List Field->Option (List (Nat×Nat))
 |[]=>some []
 |f::l=>match P.info? f.type,places l with
  |some i,some m=>some ((f.offset,i.size)::m)
  |_,_=>none
def zg(fields:Array Field):List (Nat×Operand)->Option (List (Nat×Nat×bp))
 |[]=>some []
 |(i,x)::l=>match fields[i]?,cG x,zg fields l with
  |some fd,some x',some l'=>match kS P fd.type with
   |some n=>some ((fd.offset,n,x')::l')
   |none=>none
  |_,_,_=>none
def zf(sz:Nat):List (Nat×Operand)->Option (List (Nat×Nat×bp))
 |[]=>some []
 |(i,x)::l=>match cG x,zf sz l with
  |some x',some l'=>some ((i*sz,sz,x')::l')
  |_,_=>none
def Ef:Nat->List (Nat×Operand)->Option (List Operand)
 |_,[]=>some []
 |k,(i,x)::l=>if i=k then(Ef (k+1) l).map (x::·)else none
def pC(t:TypeId):Option KK:=match P.underlying t with
 |some (.int _)=>some .int
 |some .string=>some .str
 |some .bool=>some .bool
 |_=>none
def EE:Nat->List Field->Option (List KK)
 |_,[]=>some []
 |k,f::l=>match pC P f.type,kS P f.type,EE (k+1) l with
  |some kk,some 1,some ks=>if f.name≠ "_" /\f.offset=k then some (kk::ks)else none
  |_,_,_=>none
def BO(t:TypeId):Option (List KK):=
 if P.eqGuardType P.depth t then none else
 match P.underlying t with
  |some (.struct fields)=>if P.stoodInHeld t then none else EE P 0 fields.toList
  |some (.array n e)=>match pC P e,kS P e with
   |some kk,some 1=>some (List.replicate n kk)
   |_,_=>none
  |_=>none
def uu:Option Operand->Option (Option bp)
 |none=>some none
 |some x=>(cG x).map some
def Mu:NK->Operand->Bool
 | .ptr,.const (.pointer none)=>true
 | .slice,.const (.slice none 0 0)=>true
 | .fn,.const .nilFunc=>true
 | .iface,.const .nilIface=>true
 | .map,.const (.map none)=>true
 |_,_=>false
def ur(k:NK)(op:BinOp)(x:bp)(y:Operand):Option AO:=
 if Mu k y then match op with
  | .eql=>some (.Hk false k x)
  | .neq=>some (.Hk true k x)
  |_=>none
 else none
def Nk(t:TypeId):Option TypeId:=match P.info? t with
 |some i=>match i.desc,i.zero,P.underlying t with
  | .named "strings.Builder" _,some (.agg ⟨[.pointer none,.slice none 0 0]⟩),some (.struct ⟨[_,fd]⟩)=>match P.underlying fd.type with
   |some (.slice e)=>some e
   |_=>none
  |_,_,_=>none
 |none=>none
def bH(bN:Nat->Bool)(o:Oper):Option AO:=
 match o.op with
 | .move x=>(cG x).map .mv
 | .assign x=>(cG x).map .mv
 | .pick c a b=>match cG c,cG a,cG b with
  |some c,some a,some b=>some (.pick c a b)
  |_,_,_=>none
 | .alloc e=>match o.dst,ud P e with
  |some d,some z=>match(if bN d then Nk P e else none)with
   |some be=>some (.abld e be)
   |none=>some (.alloc (bN d) z)
  |_,_=>none
 | .box e x=>match o.dst,kS P e,cG x with
  |some d,some n,some x=>some (.box (bN d) n x)
  |_,_,_=>none
 | .build t parts=>match ud P t,P.underlying t with
  |some z,some (.struct fields)=>match places P fields.toList with
   |some _=>(zg P fields parts.toList).map (.build z)
   |none=>none
  |some z,some (.array _ e)=>match kS P e with
   |some sz=>(zf sz parts.toList).map (.build z)
   |none=>none
  |_,_=>none
 | .buildSlice t len parts=>match P.underlying t,Ef 0 parts.toList with
  |some (.slice e),some xs=>match kS P e,vj P e,ud P e,vC xs with
   |some sz,some ag,some _,some vn=>if xs.length=len/\len*sz<=2^24 then some (.bV ag sz vn)else none
   |_,_,_,_=>none
  |_,_=>none
 | .load t a=>match vj P t,kS P t,cG a with
  |some ag,some n,some a=>some (.ld ag n a)
  |_,_,_=>none
 | .store t a x=>match kS P t,cG a,cG x with
  |some n,some a,some x=>some (.st n a x)
  |_,_,_=>none
 | .nilCheck x=>(cG x).map .nE
 | .binOp op t x y _=>
  match P.underlying t,cG x,cG y with
  |some (.int _),some x',some y'=>some (.bin op x' y')
  |some .string,some x',some y'=>some (.bin op x' y')
  |some .bool,some x',some y'=>(match op with
    | .eql=>some (.BJ false x' y')
    | .neq=>some (.BJ true x' y')
    |_=>none)
  |some (.struct _),some x',some y'=>(match BO P t,op with
    |some ks,.eql=>some (.eqs false ks x' y')
    |some ks,.neq=>some (.eqs true ks x' y')
    |_,_=>none)
  |some (.array _ _),some x',some y'=>(match BO P t,op with
    |some ks,.eql=>some (.eqs false ks x' y')
    |some ks,.neq=>some (.eqs true ks x' y')
    |_,_=>none)
  |some (.pointer _),some x',some _=>ur .ptr op x' y
  |some (.slice _),some x',some _=>ur .slice op x' y
  |some (.func _ _ _),some x',some _=>ur .fn op x' y
  |some (.interface _),some x',some _=>ur .iface op x' y
  |some (.map _ _),some x',some _=>ur .map op x' y
  |_,_,_=>none
 | .makeSlice t n c=>match P.underlying t,cG n,cG c with
  |some (.slice e),some n,some c=>match ud P e,P.info? e with
   |some z,some i=>some (.mkslc (if(vj P e).getD true then z.length else 0) z i.bytes n c)
   |_,_=>none
  |_,_,_=>none
 | .unOp op _ x=>(cG x).map (.un op)
 | .convert s d x=>match P.underlying s,P.underlying d,cG x with
  |some _,some (.int k),some x=>some (.conv (.int k) x)
  |some .string,some .string,some x=>some (.conv .same x)
  |some (.int _),some .string,some x=>some (.conv .char x)
  |_,_,_=>none
 | .makeInterface t x=>match P.underlying t,cG x with
  |some (.interface _),_=>none
  |some _,some x=>some (.Mp t x)
  |_,_=>none
 | .makeFunc (.func f) a b=>match vC a.toList,vC b.toList with
  |some a,some b=>some (.jq (.func f) a b)
  |_,_=>none
 | .fieldAddr s x f=>match Ip P s f,cG x with
  |some (off,t),some x=>match kS P t with
   |some _=>some (.fa off x)
   |none=>none
  |_,_=>none
 | .field s x f=>match Ip P s f,cG x with
  |some (off,t),some x=>match kS P t,vj P t with
   |some n,some ag=>some (.kH ag off n x)
   |_,_=>none
  |_,_=>none
 | .indexAddr t x i=>match P.underlying t,cG x,cG i with
  |some (.slice e),some x,some i=>(kS P e).map fun sz=> .ia sz x i
  |some (.array n e),some x,some i=>(kS P e).map fun sz=> .ri n sz x i
  |_,_,_=>none
 | .index t x i=>match P.underlying t,cG x,cG i with
  |some (.array n e),some x,some i=>match kS P e,vj P e with
   |some sz,some ag=>some (.Ar ag n sz x i)
   |_,_=>none
  |some .string,some x,some i=>some (.kO x i)
  |_,_,_=>none
 | .lookup t m k ok=>match P.underlying t,cG m,cG k with
  |some (.map kt e),some m,some k=>match UZ P e,pC P kt with
   |some z,some kk=>some (.lookup kk z ok m k)
   |_,_=>none
  |_,_,_=>none
 | .mapUpdate t m k v=>match P.underlying t,cG m,cG k,cG v with
  |some (.map kt _),some m,some k,some v=>(pC P kt).map fun kk=> .mapup kk m k v
  |_,_,_,_=>none
 | .insert t m k v=>match P.underlying t,cG m,cG k,cG v with
  |some (.map kt _),some m,some k,some v=>(pC P kt).map fun kk=> .mapup kk m k v
  |_,_,_,_=>none
 | .makeMap _ none=>some .mkmap
 | .makeMap t (some (.const (.int _ _)))=>match P.underlying t with
  |some (.map _ _)=>some .mkmap
  |_=>none
 | .slice t x lo hi mx=>match P.underlying t,cG x,uu lo,uu hi,uu mx with
  |some (.slice e),some x,some lo,some hi,some mx=>if mx.isSome&& !hi.isSome then none else(kS P e).map fun sz=> .AM sz x lo hi mx
  |some .string,some x,some lo,some hi,some none=>some (.rE x lo hi)
  |_,_,_,_,_=>none
 | .extract x k=>(cG x).map fun x=> .ext x k
 | .call c=>match c.callee with
  | .value f=>match cG f,vC c.args.toList with
   |some f,some args=>some (.call f args)
   |_,_=>none
  | .builtin .append=>match c.args.toList,c.argTypes.toList with
   |[x,y],[t,t']=>match P.underlying t,cG x,cG y with
    |some (.slice e),some x,some y=>match P.info? e,vj P e,ud P e with
     |some i,some ag,some _=>if t=t' then some (.app ag i.size i.bytes e x y)else none
     |_,_,_=>none
    |_,_,_=>none
   |_,_=>none
  | .builtin .len=>match c.args.toList,c.argTypes.toList with
   |[x],[t]=>match P.underlying t,cG x with
    |some .string,some x=>some (.lens x)
    |some (.slice _),some x=>some (.len x)
    |some (.map _ _),some x=>some (.CS x)
    |some (.array n _),some _=>some (.Mf n)
    |_,_=>none
   |_,_=>none
  | .builtin .delete=>match c.args.toList,c.argTypes.toList with
   |[m,k],t::_=>match P.underlying t,cG m,cG k with
    |some (.map kt _),some m,some k=>(pC P kt).map fun kk=> .del kk m k
    |_,_,_=>none
   |_,_=>none
  | .builtin .copy=>match c.args.toList,c.argTypes.toList with
   |[x,y],t::_=>match P.underlying t,cG x,cG y with
    |some (.slice e),some x,some y=>(kS P e).map fun sz=> .cpy sz x y
    |_,_,_=>none
   |_,_=>none
  | .builtin .clear=>match c.args.toList,c.argTypes.toList with
   |[x],[t]=>match P.underlying t,cG x with
    |some (.slice e),some x=>(ud P e).map fun z=> .clr z x
    |_,_=>none
   |_,_=>none
  | .builtin .max=>match c.args.toList with
   |[x,y]=>match cG x,cG y with
    |some x,some y=>some (.max x y)
    |_,_=>none
   |_=>none
  | .builtin .min=>match c.args.toList with
   |[x,y]=>match cG x,cG y with
    |some x,some y=>some (.min x y)
    |_,_=>none
   |_=>none
  |_=>none
 | .range t x=>match P.underlying t,cG x with
  |some .string,some x=>some (.qB x)
  |_,_=>none
 | .next x true=>(cG x).map .yH
 |_=>none
def PL(bN:Nat->Bool)(o:Oper):AO:=(bH P bN o).getD .bad
end
section
variable{P:Program}{g:Gh}{lb:LB}
theorem NI{v:Value}{a:AV}(h:DL v=some a):VR g lb a v/\v.oneCell'=true:=by
 unfold DL at h;split at h<;>first|(cases h;done)|skip
 all_goals(cases h;refine⟨?_,rfl⟩)
 ·exact .bool _ _
 ·exact .int _ _ _
 ·exact .str _ _ _ rfl
 ·exact .iR _
 ·exact .iQ _
 ·exact .fP _
 ·exact .eU _
 ·exact .ga _
theorem Vp{l:List Value}{m:List AV}(h:DM l=some m):PW (VR g lb) m l/\∀v∈l,v.oneCell'=true:=by
 induction l generalizing m with
 |nil=>cases h;exact⟨PW.nil,by simp⟩
 |cons v l ih=>
  simp only[DM]at h
  split at h
  ·rename_i a m' h1 h2;cases h;obtain⟨k1,k2⟩:=ih h2;obtain⟨k3,k4⟩:=NI (g:=g) (lb:=lb) h1;exact⟨PW.cons k3 k1,by simp only[List.mem_cons,forall_eq_or_imp];exact⟨k4,k2⟩⟩
  ·cases h
theorem IP{v:Value}{a:AV}(h:A9 v=some a):VR g lb a v:=by
 unfold A9 at h;split at h
 ·rename_i cs;simp only[bL]at h;obtain⟨l,hl,rfl⟩:=h;obtain⟨k1,k2⟩:=Vp (g:=g) (lb:=lb) hl;exact .agg _ _ _ (by simpa using k1.1.symm) (fun i hi=>k2 _ (by simp)) (fun i hi ae=>by have:=k1.2 i hi (by simpa using ae);rwa[mz]at this)
 ·rename_i a;split at h
  ·rename_i h0;cases h;have:a= #[]:=Array.size_eq_zero_iff.1 h0;subst this;exact .undef _
  ·cases h
 ·rename_i f a b;split at h
  ·rename_i h0;cases h;refine .fn _ _ _ _ _ a b h0.1 h0.2 rfl (fun i hi=>by simp at hi) (fun i hi=>by simp at hi)
  ·cases h
 ·exact(NI h).1
end
section
variable{P:Program}{base:Nat}{LC:eX}{g:Gh}{lb:LB}{own:OW}{loc:Nat->Option (Nat×θ)}{mem:Mem}{w:World}{bN:Nat->Bool}{aH:cM}
variable{ev:bp->AV}{a:Act}
def eM(P:Program)(base:Nat)(LC:eX)(g:Gh)(lb:LB)(own:OW)(loc:Nat->Option (Nat×θ))(w:World)(a:Act)(o:Oper)(v:AV)(u:lA)(m':Mem):Prop:=
 ∃x w',((execOp a.eval o).run P w= .ok (.value x) w'\/((execOp a.eval o).run P w= .ok .skip w'/\x=undef))/\iW base LC g lb own loc w v u m' x w'
def eW(g:Gh)(lb:LB)(ev:bp->AV)(a:Act):Prop:=∀x x',cG x=some x'->VR g lb (ev x') (a.eval x)
theorem Ew(au:eW g lb ev a){l:List Operand}{m:List bp}(h:vC l=some m):PW (VR g lb) (m.map ev) (l.map a.eval):=by
 induction l generalizing m with
 |nil=>cases h;exact PW.nil
 |cons x l ih=>
  simp only[vC]at h
  split at h
  ·rename_i x' m' h1 h2;cases h;exact PW.cons (au _ _ h1) (ih h2)
  ·cases h
theorem oV{t:TypeId}{n:Nat}(h:kS P t=some n):(sizeOf t).run P w= .ok n w/\0<n/\(P.info? t).map (·.size)=some n:=by
 unfold kS at h;split at h
 ·rename_i i hi;split at h
  ·rename_i h0;cases h;exact⟨by simp[sizeOf,typeInfo,hi],h0,by simp[hi]⟩
  ·cases h
 ·cases h
theorem Io{t:TypeId}{ag:Bool}(h:vj P t=some ag):(isAgg t).run P w= .ok ag w:=by
 unfold vj at h;split at h
 ·rename_i hu;cases h;simp[isAgg,run_underlying hu]
 ·rename_i hu;cases h;simp[isAgg,run_underlying hu]
 ·rename_i d h1 h2 hu;cases h;have hd:∀w:World,(isAgg t).run P w=(match d with| .struct _| .array _ _=>(pure true:Sem Bool)|_=>pure false).run P w:=fun w=>by simp only[isAgg,Sem.run_bind,run_underlying hu,Result.andThen_ok]
  rw[hd];cases d<;>first|rfl|(exact absurd rfl (h1 _))|(exact absurd rfl (h2 _ _))
 ·cases h
theorem AT{t:TypeId}{l:List AV}(h:ud P t=some l):∃z i,P.info? t=some i/\i.zero=some z/\(zeroValue t).run P w= .ok z w/\z.cells.size=i.size/\l.length=i.size/\0<i.size∧
  PW (VR g lb) l z.cells.toList/\∀v∈z.cells.toList,v.oneCell'=true:=by
 unfold ud at h;split at h
 ·rename_i i hi;split at h
  ·rename_i z hz;split at h
   ·rename_i v hv;split at h
    ·rename_i hc;cases h;have wx:=IP (g:=g) (lb:=lb) hv;obtain⟨k1,k2,k3⟩:=wx.cells (by intro hn;rw[hn]at hc;simp at hc;omega);refine⟨z,i,hi,hz,by simp[zeroValue,typeInfo,hi,hz],hc.2.1,hc.2.2,hc.1,⟨by simpa using k1.symm,fun i hi ae=>?_⟩,fun u hu=>?_⟩
     ·have:=k2 i hi (by simpa using ae);rwa[mz]
     ·obtain⟨j,hj,rfl⟩:=qH.1 hu;have:=k3 j (by simpa using hj);rwa[mz]
    ·cases h
   ·cases h
  ·cases h
 ·cases h
theorem H3{v:AV}{x:Value}(h:VR g lb v x)(hn:0<v.cells.length):PW (VR g lb) v.cells x.cells.toList/\∀u∈x.cells.toList,u.oneCell'=true:=by
 obtain⟨k1,k2,k3⟩:=h.cells (by intro h0;rw[h0]at hn;simp at hn);refine⟨⟨by simpa using k1.symm,fun i hi ae=>?_⟩,fun u hu=>?_⟩
 ·have:=k2 i hi (by simpa using ae);rwa[mz]
 ·obtain⟨j,hj,rfl⟩:=qH.1 hu;have:=k3 j (by simpa using hj);rwa[mz]
theorem JP(off:Nat):∀(vs:List Value) (k:Nat) (cs:Array Value),off+k+vs.length<=cs.size→
  ((vs.zipIdx k).foldl (fun cs (c,j)=>cs.setIfInBounds (off+j) c) cs).toList=cs.toList.take (off+k)++vs++cs.toList.drop (off+k+vs.length)
 |[],k,cs,_=>by simp
 |v::vs,k,cs,h=>by simp only[dO]at h;simp only[List.zipIdx_cons,List.foldl_cons];rw[JP off vs (k+1) (cs.setIfInBounds (off+k) v) (by simp;omega)];have:=Go.list_seg_step cs.toList (off+k) v vs (by simp;omega);simpa[Array.toList_setIfInBounds,vz,Nat.add_comm,Nat.add_left_comm]using this
theorem JO(au:eW g lb ev a)(place:Nat->Option (Nat×Nat)):∀(parts:List (Nat×Operand)) (ps:List (Nat×Nat×bp)) (cs:List AV) (vs:Array Value) (r:List AV),
  parts.length=ps.length->(∀k (h:k<parts.length) (h':k<ps.length),place parts[k].1=some (ps[k].1,ps[k].2.1)/\cG parts[k].2=some ps[k].2.2/\0<ps[k].2.1)→
  PW (VR g lb) cs vs.toList->(∀v∈vs.toList,v.oneCell'=true)->cX ev ps cs=some r→
  ∃ws:Array Value,Instr.fill place vs (parts.map fun(i,x)=>(i,a.eval x))=some ws/\PW (VR g lb) r ws.toList/\∀v∈ws.toList,v.oneCell'=true
 |[],[],cs,vs,r,_,_,hp,h1,hr=>by cases hr;exact⟨vs,rfl,hp,h1⟩
 |[],_::_,_,_,_,hl,_,_,_,_=>by simp at hl
 |_::_,[],_,_,_,hl,_,_,_,_=>by simp at hl
 |(i,x)::parts,(off,size,x')::ps,cs,vs,r,hl,hk,hp,h1,hr=>by
  obtain⟨k1,k2,k3⟩:=hk 0 (by simp) (by simp);simp only[mY]at k1 k2 k3;simp only[cX]at hr;split at hr
  ·rename_i hc;obtain⟨du,hle⟩:=hc;obtain⟨q1,q2⟩:=H3 (au _ _ k2) (by omega);have bm:(a.eval x).cells.size=size:=by have:=q1.1;simp at this;omega
   have Ak:vs.size=cs.length:=by have:=hp.1;simp at this;omega
   let s8:Array Value:=(a.eval x).cells.zipIdx.foldl (fun cs (c,j)=>cs.setIfInBounds (off+j) c) vs;have CH:s8.toList=vs.toList.take off++(a.eval x).cells.toList++vs.toList.drop (off+(a.eval x).cells.toList.length):=by have h:=JP off (a.eval x).cells.toList 0 vs (by simp only[vp,bm,Ak];omega);simp only[um]at h;rw[<-h];simp only[s8,<-ahJ,ahK]
   have nx:PW (VR g lb) (fy cs off (ev x').cells) s8.toList:=by rw[CH];unfold fy;have hlen:=q1.1;rw[hlen];exact((hp.take off).append q1).append (hp.drop _)
   have fL:∀v∈s8.toList,v.oneCell'=true:=by
    rw[CH];intro v hv;rcases eL.1 hv with hv|hv
    ·rcases eL.1 hv with hv|hv
     ·exact h1 _ (oe hv)
     ·exact q2 _ hv
    ·exact h1 _ (rL hv)
   obtain⟨ws,e1,e2,e3⟩:=JO au place parts ps _ s8 r (by simpa using hl) (fun k h h'=>by have:=hk (k+1) (by simpa using h) (by simpa using h');simpa using this) nx fL hr;refine⟨ws,?_,e2,e3⟩;simp only[ah,Instr.fill,k1];rw[if_neg (by simp[bm,Ak];omega)];exact e1
  ·cases hr
theorem afJ{fs:List Field}{m:List (Nat×Nat)}(h:places P fs=some m):(fs.mapM fun f=>do pure (f.offset,<-sizeOf f.type):Sem (List (Nat×Nat))).run P w= .ok m w∧
  ∀(k:Nat) (fd:Field),fs[k]?=some fd->∃i,P.info? fd.type=some i/\m[k]?=some (fd.offset,i.size):=by
 induction fs generalizing m with
 |nil=>cases h;exact⟨rfl,by simp⟩
 |cons f fs ih=>
  simp only[places]at h
  split at h
  ·rename_i i m' hi hm;cases h;obtain⟨k1,k2⟩:=ih hm;refine⟨?_,fun k fd hk=>?_⟩
   ·have hs:(sizeOf f.type).run P w= .ok i.size w:=by simp[sizeOf,typeInfo,hi]
    simp only[List.mapM_cons,Sem.run_bind,hs,Result.andThen_ok,Sem.run_pure,k1]
   ·cases k with
    |zero=>simp at hk;subst hk;exact⟨i,hi,by simp⟩
    |succ k=>simpa using k2 k fd (by simpa using hk)
  ·cases h
theorem WB{fields:Array Field}{parts:List (Nat×Operand)}{ps:List (Nat×Nat×bp)}(h:zg P fields parts=some ps):
  parts.length=ps.length/\∀k (h:k<parts.length) (h':k<ps.length),(∃fd,fields[parts[k].1]?=some fd/\fd.offset=ps[k].1/\kS P fd.type=some ps[k].2.1)/\cG parts[k].2=some ps[k].2.2:=by
 induction parts generalizing ps with
 |nil=>cases h;exact⟨rfl,fun k h=>by simp at h⟩
 |cons p parts ih=>
  obtain⟨i,x⟩:=p
  simp only[zg]at h;split at h
  ·rename_i fd x' l' h1 h2 h3;split at h
   ·rename_i n hn;cases h;obtain⟨e1,e2⟩:=ih h3;refine⟨by simp[e1],fun k hk dm=>?_⟩;cases k with
    |zero=>exact⟨⟨fd,h1,rfl,hn⟩,h2⟩
    |succ k=>exact e2 k (by simpa using hk) (by simpa using dm)
   ·cases h
  ·cases h
theorem WA{sz:Nat}{parts:List (Nat×Operand)}{ps:List (Nat×Nat×bp)}(h:zf sz parts=some ps):
  parts.length=ps.length/\∀k (h:k<parts.length) (h':k<ps.length),ps[k].1=parts[k].1*sz/\ps[k].2.1=sz/\cG parts[k].2=some ps[k].2.2:=by
 induction parts generalizing ps with
 |nil=>cases h;exact⟨rfl,fun k h=>by simp at h⟩
 |cons p parts ih=>
  obtain⟨i,x⟩:=p
  simp only[zf]at h;split at h
  ·rename_i x' l' h2 h3;cases h;obtain⟨e1,e2⟩:=ih h3;refine⟨by simp[e1],fun k hk dm=>?_⟩;cases k with
   |zero=>exact⟨rfl,rfl,h2⟩
   |succ k=>exact e2 k (by simpa using hk) (by simpa using dm)
  ·cases h
theorem NJ{r:List AV}{ws:Array Value}(h:PW (VR g lb) r ws.toList)(h1:∀v∈ws.toList,v.oneCell'=true):VR g lb (.agg r) (.agg ws):=
 .agg _ _ _ (by simpa using h.1.symm) (fun i hi=>h1 _ (by simp)) fun i hi ae=>by have:=h.2 i hi (by simpa using ae);rwa[mz]at this
theorem Ud{r:List AV}{ws:Array Value}(h:VR g lb (.agg r) (.agg ws)):PW (VR g lb) r ws.toList/\∀v∈ws.toList,v.oneCell'=true:=by
 cases h with
 |agg _ _ _ hs h1 hv=>
  refine⟨⟨by simpa using hs.symm,fun i hi ae=>by rw[mz];exact hv i hi _⟩,fun v nA=>?_⟩
  obtain⟨j,hj,rfl⟩:=qH.1 nA;rw[mz];exact h1 j _
theorem run_build(au:eW g lb ev a){t:TypeId}{parts:Array (Nat×Operand)}{z:List AV}{ps:List (Nat×Nat×bp)}{r:List AV}(hz:ud P t=some z)
  (bo:(∃fields m,P.underlying t=some (.struct fields)/\places P fields.toList=some m/\zg P fields parts.toList=some ps)∨
   (∃n e sz,P.underlying t=some (.array n e)/\kS P e=some sz/\zf sz parts.toList=some ps))
  (hr:cX ev ps z=some r):∃x,(Instr.build t (parts.map fun(i,x)=>(i,a.eval x))).run P w= .ok x w/\VR g lb (.agg r) x:=by
 obtain⟨zv,i,hi,pA,qt,-,-,-,dc,h1⟩:=AT (P:=P) (g:=g) (lb:=lb) (w:=w) hz;have x4:(parts.map fun(i,x)=>(i,a.eval x)).toList=parts.toList.map fun(i,x)=>(i,a.eval x):=by simp
 rcases bo with⟨fields,m,hu,cm,hc⟩|⟨n,e,sz,hu,bm,hc⟩
 ·obtain⟨e1,e2⟩:=WB hc;obtain⟨p1,p2⟩:=afJ (w:=w) cm;obtain⟨ws,k1,k2,k3⟩:=JO au (fun i=>m.toArray[i]?) parts.toList ps z zv.cells r e1 (fun k h h'=>by
   obtain⟨⟨fd,q1,q2,q3⟩,q4⟩:=e2 k h h'
   obtain⟨i',q5,q6⟩:=p2 parts.toList[k].1 fd (by simpa using q1);unfold kS at q3;rw[q5]at q3;dsimp only at q3;split at q3
   ·rename_i h0;simp only[bj]at q3;refine⟨by simp only[List.getElem?_toArray,q6,q2,q3],q4,by rw[<-q3];exact h0⟩
   ·cases q3) dc h1 hr
  refine⟨.agg ws,?_,NJ k2 k3⟩;have hmp:(fields.mapM fun f=>do pure (f.offset,<-sizeOf f.type):Sem (Array (Nat×Nat))).run P w= .ok m.toArray w:=by rw[Array.mapM_eq_mapM_toList];simp only[Sem.run_map,p1,Result.andThen_ok]
  simp only[Instr.build,Sem.run_bind,qt,Result.andThen_ok,run_underlying hu,hmp,x4,k1];rfl
 ·obtain⟨e1,e2⟩:=WA hc;obtain⟨s1,s2,-⟩:=oV (P:=P) (w:=w) bm;obtain⟨ws,k1,k2,k3⟩:=JO au (fun i=>some (i*sz,sz)) parts.toList ps z zv.cells r e1 (fun k h h'=>by
   obtain⟨q1,q2,q3⟩:=e2 k h h'
   exact⟨by rw[q1,q2],q3,by rw[q2];exact s2⟩) dc h1 hr
  refine⟨.agg ws,?_,NJ k2 k3⟩;simp only[Instr.build,Sem.run_bind,qt,Result.andThen_ok,run_underlying hu,s1,x4,k1];rfl
end
section
variable{P:Program}{base:Nat}{LC:eX}{g:Gh}{lb:LB}{own:OW}{loc:Nat->Option (Nat×θ)}{mem:Mem}{w:World}{bN:Nat->Bool}{aH:cM}
variable{ev:bp->AV}{a:Act}{o:Oper}{ao:AO}{v:AV}{u:lA}{m':Mem}
theorem eM.pure(hm:bc g own LC mem w)(hl:cQ g lb own loc w)(ho:bZ base own w){x:Value}(h1:(execOp a.eval o).run P w= .ok (.value x) w)(h2:VR g lb v x):
  eM P base LC g lb own loc w a o v none mem:=⟨x,w,.inl h1,iW.pure hm hl ho h2⟩
theorem TJ(au:eW g lb ev a)(hm:bc g own LC mem w)(hl:cQ g lb own loc w)(ho:bZ base own w){x:Operand}(Ψ:o.op= .move x\/o.op= .assign x)
  (hc:bH P bN o=some ao) (hr:aF ev loc mem aH o.dst ao=some (v,u,m')):eM P base LC g lb own loc w a o v u m':=by
 have hx:∃x',cG x=some x'/\ao= .mv x':=by rcases Ψ with Ψ|Ψ<;>simp only[bH,Ψ,bL]at hc<;>(obtain⟨x',h1,rfl⟩:=hc;exact⟨x',h1,rfl⟩)
 obtain⟨x',fS,rfl⟩:=hx;simp only[aF,bj,aL]at hr;obtain⟨rfl,rfl,rfl⟩:=hr;exact .pure hm hl ho (by rcases Ψ with Ψ|Ψ<;>simp only[execOp,Ψ]<;>rfl) (au _ _ fS)
theorem aes(au:eW g lb ev a)(hm:bc g own LC mem w)(hl:cQ g lb own loc w)(ho:bZ base own w){x y z:Operand}(Ψ:o.op= .pick x y z)
  (hc:bH P bN o=some ao) (hr:aF ev loc mem aH o.dst ao=some (v,u,m')):eM P base LC g lb own loc w a o v u m':=by
 simp only[bH,Ψ]at hc;split at hc
 ·rename_i x' y' z' h1 h2 h3;cases hc;simp only[aF]at hr;split at hr
  ·rename_i t ht;simp only[bj,aL]at hr;obtain⟨rfl,rfl,rfl⟩:=hr;have k1:=au _ _ h1;rw[ht]at k1;cases hx:a.eval x<;>rw[hx]at k1<;>cases k1;refine .pure (x:=if t then a.eval y else a.eval z) hm hl ho ?_ ?_
   ·simp only[execOp,Ψ,hx];cases t<;>rfl
   ·cases t
    ·exact au _ _ h3
    ·exact au _ _ h2
  ·cases hr
 ·cases hc
theorem ad9(au:eW g lb ev a)(hm:bc g own LC mem w)(hl:cQ g lb own loc w)(ho:bZ base own w){t:TypeId}{parts:Array (Nat×Operand)}(Ψ:o.op= .build t parts)
  (hc:bH P bN o=some ao) (hr:aF ev loc mem aH o.dst ao=some (v,u,m')):eM P base LC g lb own loc w a o v u m':=by
 have key:∃z ps,ao= .build z ps/\ud P t=some z/\((∃fields m,P.underlying t=some (.struct fields)/\places P fields.toList=some m/\zg P fields parts.toList=some ps)∨
   (∃n e sz,P.underlying t=some (.array n e)/\kS P e=some sz/\zf sz parts.toList=some ps)):=by
  simp only[bH,Ψ]at hc;split at hc
  ·rename_i z fields hz hu;split at hc
   ·rename_i m cm;simp only[bL]at hc;obtain⟨ps,h1,rfl⟩:=hc;exact⟨z,ps,rfl,hz,.inl ⟨fields,m,hu,cm,h1⟩⟩
   ·cases hc
  ·rename_i z n e hz hu;split at hc
   ·rename_i sz bm;simp only[bL]at hc;obtain⟨ps,h1,rfl⟩:=hc;exact⟨z,ps,rfl,hz,.inr ⟨n,e,sz,hu,bm,h1⟩⟩
   ·cases hc
  ·cases hc
 obtain⟨z,ps,rfl,hz,bo⟩:=key;simp only[aF,bL,aL]at hr;obtain⟨r,hr,rfl,rfl,rfl⟩:=hr;obtain⟨x,h1,h2⟩:=run_build (w:=w) au hz bo hr;exact .pure hm hl ho (by simp only[execOp,Ψ,Sem.run_bind,h1,Result.andThen_ok];rfl) h2
theorem VR.XU{f f':Fn}{l m:List AV}{x y:Array Value}(h:VR g lb (.fn f l m) (.func f' x y))(hn:¬rJ g.mb f f'):False:=by cases h;rename_i hy _ _;exact hn (by assumption)
theorem aeq(au:eW g lb ev a)(hm:bc g own LC mem w)(hl:cQ g lb own loc w)(ho:bZ base own w){x:Operand}(Ψ:o.op= .nilCheck x)
  (hc:bH P bN o=some ao) (hr:aF ev loc mem aH o.dst ao=some (v,u,m')):eM P base LC g lb own loc w a o v u m':=by
 simp only[bH,Ψ,bL]at hc;obtain⟨x',h1,rfl⟩:=hc;have k1:=au _ _ h1;have key:v=ev x'/\u=none/\m'=mem/\(execOp a.eval o).run P w= .ok (.value (a.eval x)) w:=by
  simp only[aF]at hr;split at hr<;>first|(cases hr;done)|skip
  all_goals
   rename_i he;rw[he]at k1;simp only[bj,aL]at hr;obtain⟨rfl,rfl,rfl⟩:=hr;refine⟨he.symm,rfl,rfl,?_⟩;cases hx:a.eval x<;>rw[hx]at k1<;>first
    |(cases k1;done)
    |(cases k1;simp only[execOp,Ψ,hx];rfl)
    |(rename_i f' _ _;cases f'<;>first|(cases k1;simp only[execOp,Ψ,hx];rfl)|(exact(VR.XU k1 (by simp[rJ])).elim))
 obtain⟨rfl,rfl,rfl,h2⟩:=key;exact .pure hm hl ho h2 k1
theorem M4(op:BinOp)(t:TypeId)(x y:Operand){xv yv:Value}(h:(∀l,xv≠ .agg l)/\xv≠ .nilIface):(eqGuard op t x y xv yv).run P w= .ok () w:=by
 cases xv<;>first|(exact absurd rfl (h.1 _))|(exact absurd rfl h.2)|skip
 all_goals cases op<;>rfl
theorem TE(au:eW g lb ev a)(hm:bc g own LC mem w)(hl:cQ g lb own loc w)(ho:bZ base own w){op:BinOp}{t ty:TypeId}{x y:Operand}(Ψ:o.op= .binOp op t x y ty)
  {x' y':bp} (hx:cG x=some x') (hy:cG y=some y')
  (hr:aF ev loc mem aH o.dst (.bin op x' y')=some (v,u,m')):eM P base LC g lb own loc w a o v u m':=by
 simp only[aF,bL,aL]at hr;obtain⟨r,hr,rfl,rfl,rfl⟩:=hr;have k1:=au _ _ hx;have k2:=au _ _ hy;obtain⟨z,h1,h2⟩:=Vl (P:=P) (w:=w) (t:=t) k1 k2 hr;refine .pure hm hl ho ?_ h2;have hg:(∀l,a.eval x≠ .agg l)/\a.eval x≠ .nilIface:=by
  unfold gS at hr;split at hr<;>first|(cases hr;done)|skip
  all_goals
   rename_i he _;rw[he]at k1;cases hz:a.eval x<;>rw[hz]at k1<;>cases k1<;>simp
 simp only[execOp,Ψ,Sem.run_bind,M4 op t x y hg,h1,Result.andThen_ok];rfl
theorem TF(au:eW g lb ev a)(hm:bc g own LC mem w)(hl:cQ g lb own loc w)(ho:bZ base own w){op:BinOp}{t ty:TypeId}{x y:Operand}(Ψ:o.op= .binOp op t x y ty)
  {x' y':bp} (hx:cG x=some x') (hy:cG y=some y') (hu:P.underlying t=some .bool) {neg:Bool} (hn:op=if neg then .neq else .eql)
  (hr:aF ev loc mem aH o.dst (.BJ neg x' y')=some (v,u,m')):eM P base LC g lb own loc w a o v u m':=by
 simp only[aF]at hr;split at hr
 ·rename_i b c e1 e2;simp only[bj,aL]at hr;obtain⟨rfl,rfl,rfl⟩:=hr;have k1:=au _ _ hx;have k2:=au _ _ hy;rw[e1]at k1;rw[e2]at k2;cases bO:a.eval x<;>rw[bO]at k1<;>cases k1;cases uY:a.eval y<;>rw[uY]at k2<;>cases k2;have he:(Op.equal t (.bool b) (.bool c)).run P w= .ok (b==c) w:=run_equalIn_bool 9999 hu b c;refine .pure (x:= .bool (if neg then !(b==c)else b==c)) hm hl ho ?_ (.bool _ _);cases neg<;>simp only[hS,if_false,if_true]at hn<;>subst hn
  ·simp only[execOp,Ψ,bO,uY,Sem.run_bind,M4 .eql t x y (xv:= .bool b) (yv:= .bool c) (by simp),Result.andThen_ok,binOp,he];rfl
  ·simp only[execOp,Ψ,bO,uY,Sem.run_bind,M4 .neq t x y (xv:= .bool b) (yv:= .bool c) (by simp),Result.andThen_ok,binOp,he];rfl
 ·cases hr
theorem adP{k:NK}{y:Operand}{t:TypeId}(h:Mu k y=true)(ht:∀v,(match k with
  | .ptr=>v=Value.pointer none
  | .slice=>v= .slice none 0 0
  | .fn=>v= .nilFunc
  | .iface=>v= .nilIface
  | .map=>v= .map none)->k.fits P t v):∃v,y= .const v/\k.fits P t v/\(∀l,v≠ .agg l)/\(v= .nilIface->True)/\v.oneCell'=true:=by
 unfold Mu at h;split at h<;>first|(cases h;done)|exact⟨_,rfl,ht _ rfl,by simp,fun _=>trivial,rfl⟩
theorem afI(op:BinOp)(t:TypeId)(x:Operand){xv v:Value}(h:∀l,v≠ .agg l):(eqGuard op t x (.const v) xv v).run P w= .ok () w:=by
 cases op<;>first|rfl|skip
 all_goals
  unfold eqGuard;cases xv<;>cases v<;>first|rfl|exact absurd rfl (h _)|(cases x<;>rfl)
theorem C2(au:eW g lb ev a)(hm:bc g own LC mem w)(hl:cQ g lb own loc w)(ho:bZ base own w){op:BinOp}{t ty:TypeId}{x y:Operand}(Ψ:o.op= .binOp op t x y ty)
  {x':bp} (hx:cG x=some x') {k:NK} (hc:ur k op x' y=some ao) (ht:∀v,(match k with
  | .ptr=>v=Value.pointer none
  | .slice=>v= .slice none 0 0
  | .fn=>v= .nilFunc
  | .iface=>v= .nilIface
  | .map=>v= .map none)->k.fits P t v)
  (hr:aF ev loc mem aH o.dst ao=some (v,u,m')):eM P base LC g lb own loc w a o v u m':=by
 unfold ur at hc;split at hc
 ·rename_i hn;obtain⟨nv,rfl,hf,l7,-,h1⟩:=adP (P:=P) (t:=t) hn ht;have k1:=au _ _ hx;have Rk:a.eval (.const nv)=nv:=rfl;obtain⟨xv,bO⟩:∃xv,a.eval x=xv:=⟨_,rfl⟩;rw[bO]at k1;have hg:=fun op=>afI (P:=P) (w:=w) op t x (xv:=xv) l7;have Q8:∀r,isNil k (ev x')=some r->(binOp .eql t xv nv).run P w= .ok (.bool r) w/\(binOp .neq t xv nv).run P w= .ok (.bool (!r)) w:=by
   intro r hr;have he:=aaW (P:=P) (w:=w) k1 hr hf;unfold isNil at hr;split at hr<;>first|(cases hr;done)|skip
   all_goals
    rename_i dQ;rw[dQ]at k1;cases k1<;>cases nv<;>first
     |(exact absurd rfl (l7 _))
     |(cases h1;done)
     |(constructor<;>(simp only[binOp,Sem.run_bind,he,Result.andThen_ok];rfl))
     |(exfalso;obtain⟨_,hh⟩:=hf;cases hh;done)
  split at hc
  ·cases hc;simp only[aF,bL,aL,hS,if_false]at hr;obtain⟨r,hr,rfl,rfl,rfl⟩:=hr;refine .pure (x:= .bool r) hm hl ho ?_ (.bool _ _);simp only[execOp,Ψ,bO,Rk,Sem.run_bind,hg,Result.andThen_ok,(Q8 r hr).1];rfl
  ·cases hc;simp only[aF,bL,aL,if_true]at hr;obtain⟨r,hr,rfl,rfl,rfl⟩:=hr;refine .pure (x:= .bool (!r)) hm hl ho ?_ (.bool _ _);simp only[execOp,Ψ,bO,Rk,Sem.run_bind,hg,Result.andThen_ok,(Q8 r hr).2];rfl
  ·cases hc
 ·cases hc
theorem aex(au:eW g lb ev a)(hm:bc g own LC mem w)(hl:cQ g lb own loc w)(ho:bZ base own w){op:UnOp}{t:TypeId}{x:Operand}(Ψ:o.op= .unOp op t x)
  (hc:bH P bN o=some ao) (hr:aF ev loc mem aH o.dst ao=some (v,u,m')):eM P base LC g lb own loc w a o v u m':=by
 simp only[bH,Ψ,bL]at hc;obtain⟨x',h1,rfl⟩:=hc;simp only[aF,bL,aL]at hr;obtain⟨r,hr,rfl,rfl,rfl⟩:=hr;obtain⟨z,k1,k2⟩:=Vo (P:=P) (w:=w) (au _ _ h1) hr;exact .pure hm hl ho (by simp only[execOp,Ψ,Sem.run_bind,k1,Result.andThen_ok];rfl) k2
theorem ad'(au:eW g lb ev a)(hm:bc g own LC mem w)(hl:cQ g lb own loc w)(ho:bZ base own w){s d:TypeId}{x:Operand}(Ψ:o.op= .convert s d x)
  (hc:bH P bN o=some ao) (hr:aF ev loc mem aH o.dst ao=some (v,u,m')):eM P base LC g lb own loc w a o v u m':=by
 simp only[bH,Ψ]at hc;split at hc
 ·rename_i ds k x' hs hd hx;cases hc;simp only[aF,bL,aL]at hr;obtain⟨r,hr,rfl,rfl,rfl⟩:=hr;unfold mD at hr;split at hr
  ·rename_i he;cases hr;rename_i k' n hk;cases hk;have k1:=au _ _ hx;rw[he]at k1;cases bO:a.eval x<;>rw[bO]at k1<;>cases k1;exact .pure hm hl ho (by simp only[execOp,Ψ,bO,Sem.run_bind,convert,run_underlying hs,run_underlying hd,Result.andThen_ok];rfl) (.int _ _ _)
  ·rename_i h _;cases h
  ·rename_i h _;cases h
  ·cases hr
 ·rename_i x' hs hd hx;cases hc;simp only[aF,bL,aL]at hr;obtain⟨r,hr,rfl,rfl,rfl⟩:=hr;unfold mD at hr;split at hr
  ·rename_i h _;cases h
  ·rename_i he;cases hr;have k1:=au _ _ hx;rw[he]at k1;cases bO:a.eval x<;>rw[bO]at k1<;>cases k1;rename_i hb;exact .pure hm hl ho (by simp only[execOp,Ψ,bO,Sem.run_bind,convert,run_underlying hs,run_underlying hd,Result.andThen_ok];rfl) (.str _ _ _ hb)
  ·rename_i h _;cases h
  ·cases hr
 ·rename_i k x' hs hd hx;cases hc;simp only[aF,bL,aL]at hr;obtain⟨r,hr,rfl,rfl,rfl⟩:=hr;unfold mD at hr;split at hr
  ·rename_i h _;cases h
  ·rename_i h _;cases h
  ·rename_i he;cases hr;have k1:=au _ _ hx;rw[he]at k1;cases bO:a.eval x<;>rw[bO]at k1<;>cases k1;exact .pure hm hl ho (by simp only[execOp,Ψ,bO,Sem.run_bind,convert,run_underlying hs,run_underlying hd,Result.andThen_ok];rfl) (.str _ _ _ rfl)
  ·cases hr
 ·cases hc
theorem aen(au:eW g lb ev a)(hm:bc g own LC mem w)(hl:cQ g lb own loc w)(ho:bZ base own w){t:TypeId}{x:Operand}(Ψ:o.op= .makeInterface t x)
  (hc:bH P bN o=some ao) (hr:aF ev loc mem aH o.dst ao=some (v,u,m')):eM P base LC g lb own loc w a o v u m':=by
 simp only[bH,Ψ]at hc;split at hc
 ·cases hc
 ·rename_i d x' hni hu hx;cases hc;simp only[aF,bj,aL]at hr;obtain⟨rfl,rfl,rfl⟩:=hr;refine .pure hm hl ho (x:= .iface t (a.eval x)) ?_ (.iface _ _ _ _ (au _ _ hx));have Y6:P.concrete t=true:=by unfold Program.concrete;rw[hu];cases d<;>first|rfl|exact absurd rfl (hni _)
  simp only[execOp,Ψ,Sem.run_bind,run_makeInterface w t _ Y6,Result.andThen_ok];rfl
 ·cases hc
theorem aem(au:eW g lb ev a)(hm:bc g own LC mem w)(hl:cQ g lb own loc w)(ho:bZ base own w){f:Fn}{x y:Array Operand}(Ψ:o.op= .makeFunc f x y)
  (hc:bH P bN o=some ao) (hr:aF ev loc mem aH o.dst ao=some (v,u,m')):eM P base LC g lb own loc w a o v u m':=by
 cases f<;>simp only[bH,Ψ]at hc<;>first|(cases hc;done)|skip
 rename_i f;split at hc
 ·rename_i x' y' hx hy;cases hc;simp only[aF,bj,aL]at hr;obtain⟨rfl,rfl,rfl⟩:=hr;have k1:=Ew au hx;have k2:=Ew au hy;refine .pure hm hl ho (x:= .func (.func f) (x.map a.eval) (y.map a.eval)) (by simp only[execOp,Ψ];rfl) ?_;refine .fn _ _ _ _ _ _ _ (by simpa using k1.1.symm) (by simpa using k2.1.symm) rfl (fun i hi ae=>?_) (fun i hi ae=>?_)
  ·have:=k1.2 i hi (by simpa using ae);simpa using this
  ·have:=k2.2 i hi (by simpa using ae);simpa using this
 ·cases hc
theorem UY{s f off:Nat}{t:TypeId}(h:Ip P s f=some (off,t)):∃fields fd,P.underlying s=some (.struct fields)/\fields[f]?=some fd/\fd.offset=off/\fd.type=t:=by
 unfold Ip at h;split at h
 ·rename_i fields hu;split at h
  ·rename_i fd hf;simp only[bj,aL]at h;exact⟨fields,fd,hu,hf,h.1,h.2⟩
  ·cases h
 ·cases h
theorem aed(au:eW g lb ev a)(hm:bc g own LC mem w)(hl:cQ g lb own loc w)(ho:bZ base own w){s:TypeId}{x:Operand}{f:Nat}(Ψ:o.op= .fieldAddr s x f)
  (hc:bH P bN o=some ao) (hr:aF ev loc mem aH o.dst ao=some (v,u,m')):eM P base LC g lb own loc w a o v u m':=by
 simp only[bH,Ψ]at hc;split at hc
 ·rename_i off t x' hf hx;split at hc
  ·rename_i n hn;cases hc;simp only[aF,bL,aL]at hr;obtain⟨r,hr,rfl,rfl,rfl⟩:=hr;obtain⟨ad,k1,k2⟩:=TO (au _ _ hx) hr;obtain⟨fields,fd,q1,q2,rfl,rfl⟩:=UY hf;obtain⟨s1,s2,-⟩:=oV (P:=P) (w:=w) hn;refine .pure hm hl ho ?_ k2;simp only[execOp,Ψ,k1,Sem.run_bind,Instr.fieldAt,run_underlying q1,Result.andThen_ok,q2,Instr.sureAddr,Sem.run_pure,fieldPlace,s1];rw[if_neg (by omega)];rfl
  ·cases hc
 ·cases hc
theorem aee(au:eW g lb ev a)(hm:bc g own LC mem w)(hl:cQ g lb own loc w)(ho:bZ base own w){s:TypeId}{x:Operand}{f:Nat}(Ψ:o.op= .field s x f)
  (hc:bH P bN o=some ao) (hr:aF ev loc mem aH o.dst ao=some (v,u,m')):eM P base LC g lb own loc w a o v u m':=by
 simp only[bH,Ψ]at hc;split at hc
 ·rename_i off t x' hf hx;split at hc
  ·rename_i n ag hn l7;cases hc;simp only[aF]at hr;split at hr
   ·rename_i l he;split at hr
    ·rename_i hle;simp only[bL,aL]at hr;obtain⟨r,hr,rfl,rfl,rfl⟩:=hr;have k1:=au _ _ hx;rw[he]at k1;obtain⟨fields,fd,q1,q2,rfl,rfl⟩:=UY hf;cases bO:a.eval x<;>rw[bO]at k1<;>(try cases k1;done);obtain⟨z,e1,e2⟩:=TP (P:=P) (w:=w) k1 hle (Io l7) (oV hn).1 hr;refine .pure hm hl ho ?_ e2;simp only[execOp,Ψ,bO,Sem.run_bind,Instr.field,run_underlying q1,Result.andThen_ok,q2,asAgg,Sem.run_pure,e1]
    ·cases hr
   ·cases hr
  ·cases hc
 ·cases hc
end
section
variable{P:Program}{base:Nat}{LC:eX}{g:Gh}{lb:LB}{own:OW}{loc:Nat->Option (Nat×θ)}{mem:Mem}{w:World}{bN:Nat->Bool}{aH:cM}
variable{ev:bp->AV}{a:Act}{o:Oper}{ao:AO}{v:AV}{u:lA}{m':Mem}
theorem ue{k:IntKind}{n:Int}{x:Value}(h:VR g lb (.int k n) x):x= .int k n:=by cases h;rfl
theorem aef(au:eW g lb ev a)(hm:bc g own LC mem w)(hl:cQ g lb own loc w)(ho:bZ base own w){t:TypeId}{x i:Operand}(Ψ:o.op= .indexAddr t x i)
  (hc:bH P bN o=some ao) (hr:aF ev loc mem aH o.dst ao=some (v,u,m')):eM P base LC g lb own loc w a o v u m':=by
 simp only[bH,Ψ]at hc;split at hc
 ·rename_i e x' i' hu hx hi;simp only[bL]at hc;obtain⟨sz,bm,rfl⟩:=hc;simp only[aF]at hr;split at hr
  ·rename_i c l k n e1 e2;split at hr
   ·rename_i hb;split at hr
    ·rename_i el zU;split at hr
     ·rename_i Ku;simp only[bj,aL]at hr;obtain⟨rfl,rfl,rfl⟩:=hr;have k1:=au _ _ hx;have k2:=au _ _ hi;rw[e1]at k1;rw[e2]at k2;obtain⟨s1,s2,-⟩:=oV (P:=P) (w:=w) bm;have aj:l≠[]:=by rintro rfl;simp at hb;omega
      cases bO:a.eval x<;>rw[bO]at k1<;>(try(cases k1;done));cases k1 with
      |iQ=>exact absurd rfl aj
      |g_=>exact absurd rfl aj
      |list _ _ _ b off ff nn cap xs hn dp jd CF cJ hv=>
       have ν:n.toNat<l.length:=by omega
       have tG:l[n.toNat]=el:=by rw[eo ν]at zU;exact Option.some.inj zU
       have aaG:ff=sz:=by rw[<-CF _ (cz ν),tG,Ku]
       subst aaG;refine .pure hm hl ho (x:= .pointer (some ⟨b,off+n.toNat*ff,none⟩)) ?_ ?_
       ·simp only[execOp,Ψ,bO,ue k2,Sem.run_bind,Instr.indexAt,asIntOf,Sem.run_pure,Result.andThen_ok,run_underlying hu];rw[if_pos (by rw[<-hn];exact hb)];simp only[Sem.run_bind,s1,Result.andThen_ok,Sem.run_pure,Addr.add_mid]
       ·refine .ref _ _ b (off+n.toNat*ff) (fun j=>xs n.toNat j) (fun j hj=>?_) (fun j hj=>?_)
        ·have:=cJ n.toNat (by omega) j (by omega);rwa[vz]
        ·have:=hv n.toNat ν j (by rw[tG];exact hj);simpa only[tG]using this
     ·cases hr
    ·cases hr
   ·cases hr
  ·rename_i id off m cp k n e1 e2;split at hr
   ·rename_i hb;simp only[bj,aL]at hr;obtain⟨rfl,rfl,rfl⟩:=hr;have k1:=au _ _ hx;have k2:=au _ _ hi;rw[e1]at k1;rw[e2]at k2;obtain⟨s1,s2,-⟩:=oV (P:=P) (w:=w) bm;cases bO:a.eval x<;>rw[bO]at k1<;>(try(cases k1;done));cases k1 with
    |sl _ _ _ _ _ _ b hc aX=>
     refine .pure hm hl ho (x:= .pointer (some ⟨b,off+n.toNat*sz,none⟩)) ?_ (.μ _ _ _ b aX)
     simp only[execOp,Ψ,bO,ue k2,Sem.run_bind,Instr.indexAt,asIntOf,Sem.run_pure,Result.andThen_ok,run_underlying hu];rw[if_pos hb];simp only[Sem.run_bind,s1,Result.andThen_ok,Sem.run_pure,Addr.add_mid]
   ·cases hr
  ·cases hr
 ·rename_i len e x' i' hu hx hi;simp only[bL]at hc;obtain⟨sz,bm,rfl⟩:=hc;simp only[aF]at hr;split at hr
  ·rename_i k n e2;split at hr
   ·rename_i hb;simp only[bL,aL]at hr;obtain⟨r,hr,rfl,rfl,rfl⟩:=hr;have k2:=au _ _ hi;rw[e2]at k2;obtain⟨ad,k1,k3⟩:=TO (au _ _ hx) hr;obtain⟨s1,s2,-⟩:=oV (P:=P) (w:=w) bm;refine .pure hm hl ho ?_ k3;simp only[execOp,Ψ,k1,ue k2,Sem.run_bind,Instr.indexAt,asIntOf,Sem.run_pure,Result.andThen_ok,run_underlying hu,Instr.sureAddr];rw[if_pos hb];simp only[Sem.run_bind,s1,Result.andThen_ok,Sem.run_pure]
   ·cases hr
  ·cases hr
 ·cases hc
theorem aeh(au:eW g lb ev a)(hm:bc g own LC mem w)(hl:cQ g lb own loc w)(ho:bZ base own w){t:TypeId}{x i:Operand}(Ψ:o.op= .index t x i)
  (hc:bH P bN o=some ao) (hr:aF ev loc mem aH o.dst ao=some (v,u,m')):eM P base LC g lb own loc w a o v u m':=by
 simp only[bH,Ψ]at hc;split at hc
 ·rename_i len e x' i' hu hx hi;split at hc
  ·rename_i sz ag bm l7;cases hc;simp only[aF]at hr;split at hr
   ·rename_i l k n e1 e2;split at hr
    ·rename_i hb;obtain⟨bR,dt,nq⟩:=hb;simp only[bL,aL]at hr;obtain⟨r,hr,rfl,rfl,rfl⟩:=hr;have k1:=au _ _ hx;have k2:=au _ _ hi;rw[e1]at k1;rw[e2]at k2;obtain⟨s1,s2,-⟩:=oV (P:=P) (w:=w) bm;cases bO:a.eval x<;>rw[bO]at k1<;>(try(cases k1;done));have hle:n.toNat*sz+sz<=l.length:=by rw[nq];have:(n.toNat+1)*sz<=len*sz:=rQ _ (by omega);rw[kV]at this;omega
     obtain⟨z,q1,q2⟩:=TP (P:=P) (w:=w) k1 hle (Io l7) s1 hr;refine .pure hm hl ho ?_ q2;simp only[execOp,Ψ,bO,ue k2,Sem.run_bind,Instr.index,asIntOf,Sem.run_pure,Result.andThen_ok,run_underlying hu];rw[if_pos ⟨bR,dt⟩];simp only[Sem.run_bind,s1,Result.andThen_ok,q1]
    ·cases hr
   ·cases hr
  ·cases hc
 ·rename_i x' i' hu hx hi;cases hc;simp only[aF]at hr;split at hr
  ·rename_i s k n e1 e2;split at hr
   ·rename_i hb;simp only[bL,aL]at hr;obtain⟨r,hr,rfl,rfl,rfl⟩:=hr;have k1:=au _ _ hx;have k2:=au _ _ hi;rw[e1]at k1;rw[e2]at k2;cases bO:a.eval x<;>rw[bO]at k1<;>cases k1;rename_i bs fb;obtain⟨c,Zw,pY⟩:∃c:UInt8,bs[n.toNat]?=some c/\c.toNat=r:=by
     rw[<-fb]at hr;simp only[List.getElem?_map,bL]at hr;obtain⟨c,hc,rfl⟩:=hr;have ν:=(lx.1 hc).1;have dE:n.toNat<bs.size:=by simpa using ν
     refine⟨c,?_,rfl⟩;have h1:bs[n.toNat]?=some (bs[n.toNat]'dE):=by simp[getElem?_pos,dE]
     rw[h1];have h2:bs.data.toList[n.toNat]?=some (bs[n.toNat]'dE):=by rw[eo ν];rfl
     rw[h2]at hc;exact hc
    refine .pure hm hl ho (x:= .int .u8 (Int.ofNat r)) ?_ (.int _ _ _);simp only[execOp,Ψ,bO,ue k2,Sem.run_bind,Instr.index,asIntOf,Sem.run_pure,Result.andThen_ok,run_underlying hu,if_pos hb,Zw,pY];rfl
   ·cases hr
  ·cases hr
 ·cases hc
theorem Bh(au:eW g lb ev a){x:Option Operand}{x':Option bp}(h:uu x=some x'){top Eg r:Nat}(hb:bound ev top x' Eg=some r):
  (x=none/\r=Eg)\/(∃y k n,x=some y/\a.eval y= .int k n/\0<=n/\n<=top/\r=n.toNat):=by
 cases x with
 |none=>cases h;cases hb;exact .inl ⟨rfl,rfl⟩
 |some y=>
  simp only[uu,bL]at h
  obtain⟨y',hy,rfl⟩:=h;simp only[bound]at hb;split at hb
  ·rename_i k n he;split at hb
   ·rename_i hc;cases hb;have:=au _ _ hy;rw[he]at this;exact .inr ⟨y,k,n,rfl,ue this,hc.1,hc.2,rfl⟩
   ·cases hb
  ·cases hb
theorem run_sliceBound{k:IntKind}{n:Int}{top:Nat}{code:BoundsCode}(h0:0<=n)(h1:n<=top):(Instr.sliceBound (.int k n) top code).run P w= .ok n.toNat w:=by simp only[Instr.sliceBound,asIntOf,Sem.run_bind,Sem.run_pure,Result.andThen_ok];rw[if_pos ⟨h0,h1⟩];rfl
theorem aeu(au:eW g lb ev a)(hm:bc g own LC mem w)(hl:cQ g lb own loc w)(ho:bZ base own w){t:TypeId}{x:Operand}{lo hi mx:Option Operand}(Ψ:o.op= .slice t x lo hi mx)
  (hc:bH P bN o=some ao) (hr:aF ev loc mem aH o.dst ao=some (v,u,m')):eM P base LC g lb own loc w a o v u m':=by
 simp only[bH,Ψ]at hc;split at hc
 ·rename_i e x' Tg ae Mr hu hx fB xU me;split at hc
  ·cases hc
  ·rename_i RD;simp only[bL]at hc;obtain⟨sz,bm,rfl⟩:=hc;obtain⟨s1,s2,-⟩:=oV (P:=P) (w:=w) bm;simp only[aF]at hr;split at hr
   ·rename_i c l he;split at hr
    ·rename_i pg;simp only[gz,decide_eq_true_eq]at pg;split at hr
     ·rename_i m GO;split at hr
      ·rename_i h Kl;split at hr
       ·rename_i b eT;simp only[bj,aL]at hr;obtain⟨rfl,rfl,rfl⟩:=hr;have k1:=au _ _ hx;rw[he]at k1;have q1:=Bh au me GO;have q2:=Bh au xU Kl;have q3:=Bh au fB eT;have Cn:m<=l.length:=by rcases q1 with⟨_,h⟩|⟨_,_,n,_,_,_,h,h'⟩<;>omega
        have ZB:h<=m:=by
         rcases q2 with⟨hh,h⟩|⟨_,_,n,_,_,_,h,h'⟩
         ·rcases q1 with⟨_,h1⟩|⟨y,_,_,hy,_⟩
          ·omega
          ·exfalso;subst hh;subst hy;simp only[uu,bL]at me xU;obtain⟨_,_,rfl⟩:=me;cases xU;exact RD rfl
         ·omega
        have YS:b<=h:=by rcases q3 with⟨_,h⟩|⟨_,_,n,_,_,_,h,h'⟩<;>omega
        obtain⟨A,cap,bO,dp,Y0,Zo⟩:∃A cap,a.eval x= .slice A l.length cap/\l.length<=cap/\(c= .full->cap=l.length)∧
          (l=[]\/∃bb oo vs,A=some ⟨bb,oo,none⟩/\FR g cd sz l vs/\∀q v,vs[q]?=some v->g.im bb (oo+q)=some v):=by
         by_cases hle:l=[]
         ·subst hle;generalize a.eval x=xv at k1;cases k1 with
          |iQ=>exact⟨none,0,rfl,bQ _,fun _=>rfl,.inl rfl⟩
          |g_ _ _ ad cap hc=>
           refine⟨_,cap,rfl,oY _,fun h=>?_,.inl rfl⟩
           rcases hc with hc|⟨_,hc⟩
           ·rw[hc]at h;cases h
           ·exact hc
          |list _ _ _ bb oo ff nn cap xs hn dp jd=>simp at hn;subst hn;exact⟨_,cap,rfl,dp,fun h=>(by subst h;exact jd),.inl rfl⟩
         ·obtain⟨bb,oo,cap,vs,f1,f2,f3,f4,f5⟩:=k1.flat pg hle;exact⟨_,cap,f1,f2,fun h=>(by subst h;exact f3),.inr ⟨bb,oo,vs,rfl,f4,f5⟩⟩
        have YU:∃M,(Instr.sliceBounds true l.length cap (lo.map a.eval) (hi.map a.eval) (mx.map a.eval)).run P w= .ok (b,h,M) w/\h<=M/\(mx.isSome=true->M=m)/\(mx=none->M=cap):=by
         rcases q1 with⟨rfl,Z8⟩|⟨ym,km,nm,rfl,R9,RB,Z8,Z9⟩
         ·refine⟨cap,?_,by omega,fun h=>(by cases h),fun _=>rfl⟩;rcases q2 with⟨rfl,qZ⟩|⟨yh,kh,nh,rfl,wy,xS,qZ,xT⟩
          ·rcases q3 with⟨rfl,bR⟩|⟨yb,kb,nb,rfl,uX,eS,bR,dt⟩
           ·subst bR qZ;simp[Instr.sliceBounds]
           ·subst dt qZ;simp[Instr.sliceBounds,uX,run_sliceBound eS bR]
          ·have hb:(Instr.sliceBound (.int kh nh) cap .sliceAcap).run P w= .ok nh.toNat w:=run_sliceBound xS (by omega);rcases q3 with⟨rfl,bR⟩|⟨yb,kb,nb,rfl,uX,eS,bR,dt⟩
           ·subst bR xT;simp[Instr.sliceBounds,wy,hb]
           ·subst dt xT;simp[Instr.sliceBounds,wy,uX,hb,run_sliceBound eS bR]
         ·have Q_:(Instr.sliceBound (.int km nm) cap .slice3Acap).run P w= .ok m w:=by rw[Z9];exact run_sliceBound RB (by omega)
          refine⟨m,?_,ZB,fun _=>rfl,fun h=>(by cases h)⟩;rcases q2 with⟨rfl,qZ⟩|⟨yh,kh,nh,rfl,wy,xS,qZ,xT⟩
          ·exfalso;simp only[uu,bL]at me xU;obtain⟨_,_,rfl⟩:=me;cases xU;exact RD rfl
          ·have Q7:(Instr.sliceBound (.int kh nh) m .slice3B).run P w= .ok h w:=by rw[xT];exact run_sliceBound xS qZ
           rcases q3 with⟨rfl,bR⟩|⟨yb,kb,nb,rfl,uX,eS,bR,dt⟩
           ·subst bR;simp[Instr.sliceBounds,R9,wy,Q_,Q7]
           ·have:(Instr.sliceBound (.int kb nb) h .slice3C).run P w= .ok b w:=by rw[dt];exact run_sliceBound eS bR
            simp[Instr.sliceBounds,R9,wy,uX,Q_,Q7,this]
        obtain⟨M,Lq,hhM,QU,QV⟩:=YU;have dy:(execOp a.eval o).run P w= .ok (.value (.slice (if M=b then A else A.map (·.add (b*sz))) (h-b) (M-b))) w:=by simp only[execOp,Ψ,bO,Instr.sliceAt,Instr.slice,Sem.run_bind,run_underlying hu,Result.andThen_ok,Lq,s1,Sem.run_pure]
        refine .pure hm hl ho dy ?_;have hlen:((l.take h).drop b).length=h-b:=by simp;omega
        have GR:∀bb oo,nN g (h-b) bb oo (M-b) (if Mr.isSome=true then(if m=h then Γ.full else .any)else if c= .full/\h=l.length then .full else .any):=by
         intro bb oo;split
         ·rename_i hs;have cF:mx.isSome=true:=by
           cases mx with
           |none=>cases me;cases hs
           |some _=>rfl
          split
          ·have:=QU cF;simp only[nN];omega
          ·trivial
         ·rename_i hs;have cF:mx=none:=by
           cases mx with
           |none=>rfl
           |some _=>simp only[uu,bL]at me;obtain⟨_,_,rfl⟩:=me;exact absurd rfl hs
          split
          ·rename_i hf;have:=QV cF;have:=Y0 hf.1;simp only[nN];omega
          ·trivial
        have aaj:∀tg,(if Mr.isSome=true then(if m=h then Γ.full else .any)else if c= .full/\h=l.length then .full else .any)≠ .own tg:=by intro tg;(repeat' split)<;>simp
        have jQ:∀A',A=some A'->c≠ .nil:=by
         intro A' Yp hc;subst Yp hc;rw[bO]at k1;cases k1 with
         |g_ _ _ ad cap hc=>rcases hc with hc|⟨hc,_⟩<;>cases hc
         |list _ _ _ bb oo ff nn PF xs hn YX jd=>exact jd
        rcases Zo with rfl|⟨bb,oo,vs,rfl,l9,cJ⟩
        ·have eS:b=0:=by simp at Cn;omega
         have xS:h=0:=by simp at Cn;omega
         subst eS xS;simp only[List.take_nil,List.drop_nil,Nat.zero_mul,Nat.sub_zero];have hA:(if M=0 then A else A.map (·.add 0))=A:=by
          split
          ·rfl
          ·cases A<;>simp[Addr.add]
         rw[hA];cases yl:A with
         |none=>
          rw[bO,yl]at k1
          have YB:M=0:=by
           cases k1 with
           |iQ=>
            cases mx with
            |none=>exact QV rfl
            |some _=>have:=QU rfl;simp at Cn;omega
          subst YB;have Y5:c= .nil:=by cases k1;rfl
          rw[if_pos Y5];exact .iQ _
         |some A'=>
          have Y4:=jQ A' yl
          rw[if_neg Y4];rw[bO,yl]at k1;cases k1 with
          |g_ _ _ ad cap hc=>
           refine .g_ _ _ _ _ ?_
           have hq:=GR 0 0;have RI:=aaj;generalize(if Mr.isSome=true then(if m=0 then Γ.full else .any)else if c= .full/\0=([]:List AV).length then .full else .any)=cc at hq RI⊢;cases cc with
           |any=>exact .inl rfl
           |nil=>exact hq.elim
           |own tg=>exact absurd rfl (RI tg)
           |full=>exact .inr ⟨rfl,by simpa[nN]using hq⟩
          |list _ _ _ bb oo ff nn PF xs hn YX jd=>exact .list _ _ [] bb oo sz 0 _ (fun _ _=>undef) rfl (oY _) (by have:=GR bb oo;simpa using this) (by simp) (fun i hi=>by omega) (fun i hi=>by simp at hi)
        ·rw[if_neg (jQ _ rfl)];by_cases Q6:h-b=0
         ·have tJ:(l.take h).drop b=[]:=List.eq_nil_of_length_eq_zero (by omega);rw[tJ,Q6];have hA:∃o2,(if M=b then some (⟨bb,oo,none⟩:Addr)else(some (⟨bb,oo,none⟩:Addr)).map (·.add (b*sz)))=some ⟨bb,o2,none⟩:=by
           split
           ·exact⟨_,rfl⟩
           ·exact⟨oo+b*sz,by simp[Addr.add_mid]⟩
          obtain⟨o2,hA⟩:=hA;rw[hA];exact .list _ _ [] bb o2 sz 0 _ (fun _ _=>undef) rfl (oY _) (by have:=GR bb o2;rwa[Q6]at this) (by simp) (fun i hi=>by omega) (fun i hi=>by simp at hi)
         ·have YA:¬M=b:=by omega
          simp only[if_neg YA,rR,Addr.add_mid];have Zq:FR g cd sz ((l.take h).drop b) ((vs.take (h*sz)).drop (b*sz)):=by
           have Hg:=l9.1;have hle:h*sz<=l.length*sz:=rQ _ (by omega);have hbz:b*sz<=h*sz:=rQ _ YS;refine⟨?_,fun e he=>l9.2.1 e (oe (rL he)),fun v hv=>l9.2.2.1 v (oe (rL hv)),fun i hi j hj nU=>?_⟩
           ·rw[hlen,Nat.sub_mul];simp;omega
           ·have ae:b+i<l.length:=by rw[hlen]at hi;omega
            have GU:((l.take h).drop b)[i]=l[b+i]:=by simp
            have dD:j<l[b+i].cells.length:=by rw[<-GU];exact hj
            have uK:j<sz:=by rw[<-l9.2.1 _ (cz ae)];exact dD
            have KH:b*sz+(i*sz+j)=(b+i)*sz+j:=by rw[kV];omega
            have:=l9.2.2.2 (b+i) ae j dD (by rw[Hg];exact Hi ae uK);simp only[w_,List.getElem_take,KH];simpa only[GU]using this
          refine VR.HS Zq hlen (by omega) (GR _ _) (fun q v hq=>?_);have ya:vs[b*sz+q]?=some v:=by
           rw[List.getElem?_drop]at hq;rw[List.getElem?_take]at hq;split at hq
           ·exact hq
           ·cases hq
          have:=cJ _ _ ya;rwa[<-vz]at this
       ·cases hr
      ·cases hr
     ·cases hr
    ·cases hr
   ·cases hr
 ·rename_i x' Tg ae hu hx fB xU me;cases hc;have K_:mx=none:=by
   cases mx with
   |none=>rfl
   |some _=>simp only[uu,bL]at me;obtain⟨_,_,h⟩:=me;cases h
  subst K_;simp only[aF]at hr;split at hr
  ·rename_i s he;split at hr
   ·rename_i h Kl;split at hr
    ·rename_i b eT;simp only[bj,aL]at hr;obtain⟨rfl,rfl,rfl⟩:=hr;have k1:=au _ _ hx;rw[he]at k1;have q2:=Bh au xU Kl;have q3:=Bh au fB eT;cases bO:a.eval x<;>rw[bO]at k1<;>cases k1;rename_i bs fb;have iw:=Dk fb;have Lq:(Instr.sliceBounds false bs.size bs.size (lo.map a.eval) (hi.map a.eval) none).run P w= .ok (b,h,bs.size) w:=by
      rcases q2 with⟨rfl,qZ⟩|⟨yh,kh,nh,rfl,wy,xS,qZ,xT⟩
      ·rcases q3 with⟨rfl,bR⟩|⟨yb,kb,nb,rfl,uX,eS,bR,dt⟩
       ·subst bR qZ;simp[Instr.sliceBounds,iw]
       ·subst dt qZ;simp[Instr.sliceBounds,uX,run_sliceBound eS bR,iw]
      ·rw[<-iw]at qZ;have aX:(Instr.sliceBound (.int kh nh) bs.size .sliceAlen).run P w= .ok nh.toNat w:=run_sliceBound xS qZ;rcases q3 with⟨rfl,bR⟩|⟨yb,kb,nb,rfl,uX,eS,bR,dt⟩
       ·subst bR xT;simp[Instr.sliceBounds,wy,aX]
       ·subst dt xT;simp[Instr.sliceBounds,wy,uX,aX,run_sliceBound eS bR]
     refine .pure hm hl ho (x:= .string (bs.extract b h)) ?_ (.str _ _ _ ?_)
     ·simp only[execOp,Ψ,bO,Instr.sliceAt,Instr.slice,Sem.run_bind,run_underlying hu,Result.andThen_ok,ahL,Option.isSome_none,hS,if_false,Lq,Sem.run_pure]
     ·rw[<-fb,<-List.map_take,<-List.map_drop];congr 1;simp[ByteArray.data_extract,ahI,NC,List.drop_take]
    ·cases hr
   ·cases hr
  ·cases hr
 ·cases hc
theorem aec(au:eW g lb ev a)(hm:bc g own LC mem w)(hl:cQ g lb own loc w)(ho:bZ base own w){x:Operand}{k:Nat}(Ψ:o.op= .extract x k)
  (hc:bH P bN o=some ao) (hr:aF ev loc mem aH o.dst ao=some (v,u,m')):eM P base LC g lb own loc w a o v u m':=by
 simp only[bH,Ψ,bL]at hc;obtain⟨x',hx,rfl⟩:=hc;simp only[aF]at hr;split at hr
 ·rename_i l he;simp only[bL,aL]at hr;obtain⟨r,hr,rfl,rfl,rfl⟩:=hr;have k1:=au _ _ hx;rw[he]at k1;obtain⟨ν,rfl⟩:=lx.1 hr;obtain⟨xv,bO⟩:∃xv,a.eval x=xv:=⟨_,rfl⟩;rw[bO]at k1;cases k1 with
  |aO _ _ b hs hv=>
   have hk:k<b.size:=by omega
   refine .pure hm hl ho ?_ (hv k ν hk);simp only[execOp,Ψ,bO,Instr.extract,vo hk];rfl
 ·cases hr
theorem ad5(hm:bc g own LC mem w)(hl:cQ g lb own loc w)(ho:bZ base own w){e:TypeId}(Ψ:o.op= .alloc e)
  (hc:bH P bN o=some ao) (hr:aF ev loc mem aH o.dst ao=some (v,u,m')):eM P base LC g lb own loc w a o v u m':=by
 simp only[bH,Ψ]at hc;split at hc
 ·rename_i d z hd hz;obtain⟨zv,i,hi,pA,qt,mP,rh,h0,dc,h1⟩:=AT (P:=P) (g:=g) (lb:=lb) (w:=w) hz;split at hc
  ·rename_i be gj;cases hc;simp only[aF,bj,aL]at hr;obtain⟨rfl,rfl,rfl⟩:=hr;have hb:Nk P e=some be:=by
    split at gj
    ·exact gj
    ·cases gj
   have yn:zv= .agg #[.pointer none,.slice none 0 0]:=by
    unfold Nk at hb;rw[hi]at hb;simp only[pA]at hb;split at hb
    ·rename_i h2 _;cases h2;rfl
    ·cases hb
   subst yn;exact⟨_,_,.inl (by simp only[execOp,Ψ,Instr.alloc,Sem.run_bind,qt,Result.andThen_ok,Sem.run_pure];rfl),adM hm hl ho⟩
  cases hc;simp only[aF]at hr;refine⟨_,_,.inl ?_,Mt (e:=e) hm hl ho (cs:=zv.cells) (by rw[mP,rh]) (fun j hj dD=>by have:=dc.2 j hj (by simpa using dD);rwa[mz]at this)
   (fun j hj=>h1 _ (by simp)) hr⟩
  simp only[execOp,Ψ,Instr.alloc,Sem.run_bind,qt,Result.andThen_ok,Sem.run_pure];rfl
 ·cases hc
theorem ad7(au:eW g lb ev a)(hm:bc g own LC mem w)(hl:cQ g lb own loc w)(ho:bZ base own w){e:TypeId}{x:Operand}(Ψ:o.op= .box e x)
  (hc:bH P bN o=some ao) (hr:aF ev loc mem aH o.dst ao=some (v,u,m')):eM P base LC g lb own loc w a o v u m':=by
 simp only[bH,Ψ]at hc;split at hc
 ·rename_i d n x' hd hn hx;cases hc;simp only[aF]at hr;split at hr
  ·rename_i hlen;obtain⟨s1,s2,-⟩:=oV (P:=P) (w:=w) hn;obtain⟨dc,h1⟩:=H3 (au _ _ hx) (by omega);refine⟨_,_,.inl ?_,Mt (e:=e) hm hl ho (cs:=(a.eval x).cells) (by simpa using dc.1.symm) (fun j hj dD=>by have:=dc.2 j hj (by simpa using dD);rwa[mz]at this)
    (fun j hj=>h1 _ (by simp)) hr⟩
   simp only[execOp,Ψ,Instr.box,Sem.run_bind,Result.andThen_ok,Go.newVar,newRow,run_newObj,Sem.run_pure];rfl
  ·cases hr
 ·cases hc
theorem aei(au:eW g lb ev a)(hm:bc g own LC mem w)(hl:cQ g lb own loc w)(ho:bZ base own w){t:TypeId}{x:Operand}(Ψ:o.op= .load t x)
  (hc:bH P bN o=some ao) (hr:aF ev loc mem aH o.dst ao=some (v,u,m')):eM P base LC g lb own loc w a o v u m':=by
 simp only[bH,Ψ]at hc;split at hc
 ·rename_i ag n x' l7 hn hx;cases hc;simp only[aF]at hr;split at hr
  ·rename_i cs qm;simp only[bL,aL]at hr;obtain⟨r,hr,rfl,rfl,rfl⟩:=hr;obtain⟨b,off,vs,e1,e2,e3,e4,e5,e6⟩:=Ur hm hl (au _ _ hx) qm;obtain⟨s1,s2,s3⟩:=oV (P:=P) (w:=w) hn;have B3:=Io (w:=w) l7;obtain⟨k1,k2⟩:=IS (a:=vs.toArray) (g:=g) (lb:=lb) ⟨by simp;omega,fun i hi ae=>e5 i hi (by simpa using ae)⟩ (by simpa using e6) hr;have oD:∀j v,vs[j]?=some v->w.cell? ((⟨b,off,none⟩:Addr).add j)=some v:=fun j v hj=>by rw[Addr.add_mid];exact e4 j v hj
   cases ag with
   |true=>
    refine .pure hm hl ho ?_ (k1 rfl)
    have Af:=run_loadCells_list (P:=P) w ⟨b,off,none⟩ vs oD;simp only[execOp,Ψ,e1,Instr.loadAt,Instr.sureAddr,Sem.run_bind,Sem.run_pure,Result.andThen_ok,loadVar,B3,if_true,s1];rw[<-e2];simp only[Af,Result.andThen_ok]
   |false=>
    obtain⟨z,hz,wx⟩:=k2 rfl
    have Ak:vs=[z]:=by simpa using hz
    subst Ak;have h0:w.cell? ⟨b,off,none⟩=some z:=by simpa using e4 0 z (by simp)
    refine .pure hm hl ho ?_ wx;simp only[execOp,Ψ,e1,Instr.loadAt,Instr.sureAddr,Sem.run_bind,Sem.run_pure,Result.andThen_ok,loadVar,B3,hS,if_false,run_load,h0]
  ·cases hr
 ·cases hc
theorem aew(au:eW g lb ev a)(hm:bc g own LC mem w)(hl:cQ g lb own loc w)(ho:bZ base own w){t:TypeId}{x y:Operand}(Ψ:o.op= .store t x y)
  (hc:bH P bN o=some ao) (hr:aF ev loc mem aH o.dst ao=some (v,u,m')):eM P base LC g lb own loc w a o v u m':=by
 simp only[bH,Ψ]at hc;split at hc
 ·rename_i n x' y' hn hx hy;cases hc;simp only[aF]at hr;split at hr
  ·rename_i hlen;simp only[bL,aL,Prod.exists]at hr;obtain⟨u1,m1,hw,rfl,rfl,rfl⟩:=hr;obtain⟨s1,s2,-⟩:=oV (P:=P) (w:=w) hn;obtain⟨dc,h1⟩:=H3 (au _ _ hy) (by omega);obtain⟨b,off,cur,e,e1,e2,e3,e4⟩:=Nq hm hl ho (au _ _ hx) dc h1 hw;refine⟨undef,_,.inr ⟨?_,rfl⟩,e4⟩;have bm:(a.eval y).cells.size=n:=by have:=dc.1;simp at this;omega
   have τ:=run_storeCells_at P b off e (a.eval y).cells.toList 0 cur w e2 (by simpa using e3) h1;simp only[execOp,Ψ,e1,Instr.storeAt,Instr.sureAddr,Sem.run_bind,Sem.run_pure,Result.andThen_ok,storeVar,s1,bm];rw[if_neg (by simp)];simp only[τ,Result.andThen_ok,um];rfl
  ·cases hr
 ·cases hc
end
section
variable{P:Program}{base:Nat}{LC:eX}{g:Gh}{lb:LB}{own:OW}{loc:Nat->Option (Nat×θ)}{mem:Mem}{w:World}{bN:Nat->Bool}{aH:cM}
variable{ev:bp->AV}{a:Act}{o:Oper}{ao:AO}{v:AV}{u:lA}{m':Mem}
theorem Qn(sz:Nat):∀(parts:List (Nat×Operand)) (k:Nat) (xs:List Operand) (cs:Array Value),Ef k parts=some xs->(∀x∈xs,(a.eval x).cells.size=sz)->(k+xs.length)*sz<=cs.size→
  ∃ws:Array Value,Instr.fill (fun i=>some (i*sz,sz)) cs (parts.map fun(i,x)=>(i,a.eval x))=some ws∧
   ws.toList=cs.toList.take (k*sz)++(xs.map fun x=>(a.eval x).cells.toList).flatten++cs.toList.drop ((k+xs.length)*sz)
 |[],k,xs,cs,h,_,_=>by cases h;exact⟨cs,rfl,by simp⟩
 |(i,x)::parts,k,xs,cs,h,hs,hle=>by
  simp only[Ef]at h;split at h
  ·rename_i Ch;subst Ch;simp only[bL]at h;obtain⟨ys,hy,rfl⟩:=h;have hx:(a.eval x).cells.size=sz:=hs x (by simp);simp only[dO]at hle;have Rz:i*sz+sz<=cs.size:=by have:(i+1)*sz<=(i+(ys.length+1))*sz:=rQ _ (by omega);rw[kV]at this;omega
   let s8:Array Value:=(a.eval x).cells.zipIdx.foldl (fun cs (c,j)=>cs.setIfInBounds (i*sz+j) c) cs;have CH:s8.toList=cs.toList.take (i*sz)++(a.eval x).cells.toList++cs.toList.drop (i*sz+sz):=by have h:=JP (i*sz) (a.eval x).cells.toList 0 cs (by simp only[vp,hx];omega);simp only[um,vp,hx]at h;rw[<-h];simp only[s8,<-ahJ,ahK]
   have CF:s8.size=cs.size:=by have:=congrArg List.length CH;simp[hx]at this;omega
   have KX:(i+1+ys.length)*sz<=s8.size:=by
    have:i+1+ys.length=i+(ys.length+1):=by omega
    rw[CF,this];exact hle
   obtain⟨ws,e1,e2⟩:=Qn sz parts (i+1) ys s8 hy (fun y hy=>hs y (by simp[hy])) KX;refine⟨ws,?_,?_⟩
   ·simp only[ah,Instr.fill];rw[if_neg (by simp[hx];omega)];exact e1
   ·rw[e2,CH];have h1:(i+1)*sz=i*sz+sz:=by rw[kV,Nat.one_mul]
    have h2:(i+1+ys.length)*sz=i*sz+sz+ys.length*sz:=by rw[kV,h1]
    have h3:(i+(ys.length+1))*sz=i*sz+sz+ys.length*sz:=by rw[kV,kV,Nat.one_mul];omega
    have hl:(cs.toList.take (i*sz)++(a.eval x).cells.toList).length=i*sz+sz:=by simp[hx];omega
    rw[h1,h2];simp only[ah,List.flatten_cons,dO,h3];rw[List.take_append_of_le_length (by rw[hl];exact bQ _),List.take_of_length_le (by rw[hl];exact bQ _)];rw[List.drop_append,hl,ahM (by rw[hl];omega)];simp[List.append_assoc]
  ·cases h
theorem FR.flatten{sz:Nat}(h0:0<sz):∀(l:List AV) (m:List Value),PW (VR g lb) l m->(∀e∈l,e.cells.length=sz)->FR g lb sz l (m.map fun x=>x.cells.toList).flatten
 |[],[],_,_=>FR.nil sz
 |[],_::_,h,_=>by have:=h.1;simp at this
 |_::_,[],h,_=>by have:=h.1;simp at this
 |e::l,x::m,h,hs=>by have h1:=FR.one (g:=g) (lb:=lb) (h.2 0 (by simp) (by simp)) (hs e (by simp)) h0;have h2:=FR.flatten h0 l m ⟨by have:=h.1;simpa using this,fun i hi ae=>by have:=h.2 (i+1) (by simpa using hi) (by simpa using ae);simpa using this⟩ (fun e he=>hs e (by simp[he]));have:=h1.append h2;simpa using this
theorem ad8(au:eW g lb ev a)(hm:bc g own LC mem w)(hl:cQ g lb own loc w)(ho:bZ base own w){t:TypeId}{len:Nat}{parts:Array (Nat×Operand)}(Ψ:o.op= .buildSlice t len parts)
  (hc:bH P bN o=some ao) (hr:aF ev loc mem aH o.dst ao=some (v,u,m')):eM P base LC g lb own loc w a o v u m':=by
 simp only[bH,Ψ]at hc;split at hc
 ·rename_i e xs hu hd;split at hc
  ·rename_i sz ag z vn bm l7 hz R8;split at hc
   ·rename_i hlen;obtain⟨hlen,ag2⟩:=hlen;cases hc;simp only[aF]at hr;split at hr
    ·rename_i pg;simp only[bj,aL]at hr;obtain⟨rfl,rfl,rfl⟩:=hr;simp only[gz]at pg;obtain⟨s1,h0,s3⟩:=oV (P:=P) (w:=w) bm;obtain⟨zv,i,hi,pA,qt,mP,rh,z_,-,-⟩:=AT (P:=P) (g:=g) (lb:=lb) (w:=w) hz;have ahd:i.size=sz:=by rw[hi]at s3;simpa using s3
     have dc:=Ew au R8;have du:∀e∈vn.map ev,e.cells.length=sz:=fun e he=>by obtain⟨x,hx,rfl⟩:=jv.1 he;exact M' (pg x hx)
     have re:xs.length=vn.length:=by have:=dc.1;simp at this;omega
     have Re:∀x∈xs,(a.eval x).cells.size=sz:=fun x hx=>by
      obtain⟨j,hj,rfl⟩:=qH.1 hx;have dD:j<vn.length:=by omega
      have wx:=dc.2 j (by simpa using dD) (by simpa using hj);simp only[List.getElem_map]at wx;have hc:=du (ev vn[j]) (jv.2 ⟨_,cz dD,rfl⟩);have:=(H3 wx (by omega)).1.1;simp at this;omega
     let init:Array Value:=(ahN (len*sz)).map (zv.cells[· % zv.cells.size]!);obtain⟨ws,e1,e2⟩:=Qn (a:=a) sz parts.toList 0 xs init hd Re (by simp[init,hlen]);have CI:ws.toList=(xs.map fun x=>(a.eval x).cells.toList).flatten:=by rw[e2];have:init.toList.drop ((0+xs.length)*sz)=[]:=ahM (by simp[init,hlen]);rw[this];simp
     have l9:FR g cd sz (vn.map fun x=>mem.ρ (ev x)) ws.toList:=by rw[CI];have h1:=(FR.flatten h0 (vn.map ev) (xs.map a.eval) dc du).ρ hm;simpa[di,Function.comp_def]using h1
     have qj:=afF (e:=e) hm hl ho l9;have ZZ:(vn.map fun x=>mem.ρ (ev x)).length=len:=by simp;omega
     rw[ZZ]at qj;refine⟨_,_,.inl ?_,qj⟩;have x4:(parts.map fun(i,x)=>(i,a.eval x)).toList=parts.toList.map fun(i,x)=>(i,a.eval x):=by simp
     by_cases wi:len*sz=0
     ·have ZF:init=(ahN (len*sz)).map ((#[]:Array Value)[· % (#[]:Array Value).size]!):=by simp[init,wi]
      simp only[execOp,Ψ,Instr.buildSlice,Sem.run_bind,run_underlying hu,Result.andThen_ok,s1];rw[if_neg (by omega),if_pos wi];simp only[Sem.run_bind,Sem.run_pure,Result.andThen_ok,x4];rw[<-ZF,e1];simp only[newRow,run_newObj,Sem.run_bind,Result.andThen_ok,Sem.run_pure];rfl
     ·simp only[execOp,Ψ,Instr.buildSlice,Sem.run_bind,run_underlying hu,Result.andThen_ok,s1];rw[if_neg (by omega),if_neg wi];simp only[Sem.run_bind,qt,Sem.run_pure,Result.andThen_ok,x4];have Xb:Instr.fill (fun i=>some (i*sz,sz)) ((ahN (len*sz)).map (zv.cells[· % zv.cells.size]!)) (parts.toList.map fun(i,x)=>(i,a.eval x))=some ws:=e1;rw[Xb];simp only[newRow,run_newObj,Sem.run_bind,Result.andThen_ok,Sem.run_pure];rfl
    ·cases hr
   ·cases hc
  ·cases hc
 ·cases hc
theorem TH(au:eW g lb ev a)(hm:bc g own LC mem w)(hl:cQ g lb own loc w)(ho:bZ base own w){c:Call}(Ψ:o.op= .call c)(hb:c.callee= .builtin .max\/c.callee= .builtin .min)
  (hc:bH P bN o=some ao) (hr:aF ev loc mem aH o.dst ao=some (v,u,m')):eM P base LC g lb own loc w a o v u m':=by
 have key:∃x y x' y',c.args.toList=[x,y]/\cG x=some x'/\cG y=some y'/\((c.callee= .builtin .max/\ao= .max x' y')\/(c.callee= .builtin .min/\ao= .min x' y')):=by
  rcases hb with hb|hb<;>simp only[bH,Ψ,hb]at hc
  all_goals
   split at hc
   ·rename_i x y LI;split at hc
    ·rename_i x' y' hx hy;cases hc;exact⟨x,y,x',y',LI,hx,hy,by simp[hb]⟩
    ·cases hc
   ·cases hc
 obtain⟨x,y,x',y',LI,hx,hy,YM⟩:=key;have jz:(c.args.map a.eval)= #[a.eval x,a.eval y]:=by
  have:(c.args.map a.eval).toList=[a.eval x,a.eval y]:=by simp[LI]
  rw[<-wZ (xs:=c.args.map a.eval),this]
 rcases YM with⟨hb,rfl⟩|⟨hb,rfl⟩
 all_goals
  simp only[aF]at hr;split at hr
  ·rename_i k p k' q e1 e2;split at hr
   ·rename_i hk;subst hk;simp only[bj,aL]at hr;obtain⟨rfl,rfl,rfl⟩:=hr;have k1:=au _ _ hx;have k2:=au _ _ hy;rw[e1]at k1;rw[e2]at k2;refine .pure hm hl ho ?_ (.int _ _ _);simp only[execOp,Ψ,resolve,hb,jz,ue k1,ue k2,Sem.run_bind,Sem.run_pure,Result.andThen_ok,invoke,builtin,Builtin.max_,Builtin.min_];rfl
   ·cases hr
  ·cases hr
end
section
variable{P:Program}{base:Nat}{LC:eX}{g:Gh}{lb:LB}{own:OW}{loc:Nat->Option (Nat×θ)}{mem:Mem}{w:World}{bN:Nat->Bool}{aH:cM}
variable{ev:bp->AV}{a:Act}{o:Oper}{ao:AO}{v:AV}{u:lA}{m':Mem}
theorem HM(hm:bc g own LC mem w){id:Nat}{es:List (AV×AV)}{x:Value}(hx:VR g lb (.map id) x)(hb:mem.ε[id]?=some (.map es)):
  ∃(b:Nat) (dr:Array MapEntry) (clock:Nat),x= .map (some b)/\g.mb id=some b/\own b=some (.m id)/\(∀o,g.im b o=none)/\w.heap[b]?=some (.map dr clock)/\dr.size=es.length∧
   (∀i (h:i<es.length) (h':i<dr.size),VR g cd es[i].1 dr[i].key/\VR g cd es[i].2 dr[i].val)/\∀p∈es,plain p.1=true/\plain p.2=true:=by
 cases hx with
 |map _ _ b h=>
  obtain⟨b',h1,h2,h3,dr,clock,h4,h5,h6,h7⟩:=hm.blk id _ hb
  rw[h]at h1;cases h1;exact⟨b,dr,clock,rfl,h,h2,h3,h4,h5,h6,h7⟩
theorem run_getObj_map{b:Nat}{dr:Array MapEntry}{clock:Nat}(h:w.heap[b]?=some (.map dr clock)):(getObj b).run P w= .ok (.map dr clock) w:=by simp only[getObj,Sem.run,h]
theorem aej(au:eW g lb ev a)(hm:bc g own LC mem w)(hl:cQ g lb own loc w)(ho:bZ base own w){c:Call}(Ψ:o.op= .call c)(hb:c.callee= .builtin .len)
  (hc:bH P bN o=some ao) (hr:aF ev loc mem aH o.dst ao=some (v,u,m')):eM P base LC g lb own loc w a o v u m':=by
 simp only[bH,Ψ,hb]at hc;split at hc
 ·rename_i x t jz uU;have ph:(c.args.map a.eval)= #[a.eval x]:=by
   have:(c.args.map a.eval).toList=[a.eval x]:=by simp[jz]
   rw[<-wZ (xs:=c.args.map a.eval),this]
  have rb:c.argTypes= #[t]:=by rw[<-wZ (xs:=c.argTypes),uU]
  have dy:∀y w',(Builtin.len_ #[t] o.type #[a.eval x]).run P w= .ok y w'->(execOp a.eval o).run P w= .ok (.value y) w':=fun y w' h=>by simp only[execOp,Ψ,resolve,hb,ph,rb,Sem.run_bind,Sem.run_pure,Result.andThen_ok,invoke,builtin,h]
  split at hc
  ·rename_i x' hu hx;cases hc;have k1:=au _ _ hx;obtain⟨xv,bO⟩:∃xv,a.eval x=xv:=⟨_,rfl⟩;rw[bO]at k1;simp only[aF]at hr;split at hr
   ·rename_i s e1;simp only[bj,aL]at hr;obtain⟨rfl,rfl,rfl⟩:=hr;rw[e1]at k1;cases k1 with
    |str _ bs _ fb=>
     refine .pure hm hl ho (dy (.int .i64 bs.size) w ?_) (by rw[Dk fb];exact .int _ _ _)
     simp[bO,Builtin.len_,run_underlying hu,goInt]
   ·cases hr
  ·rename_i e x' hu hx;cases hc;have k1:=au _ _ hx;obtain⟨xv,bO⟩:∃xv,a.eval x=xv:=⟨_,rfl⟩;rw[bO]at k1;simp only[aF]at hr;split at hr
   ·rename_i c' l e1;simp only[bj,aL]at hr;obtain⟨rfl,rfl,rfl⟩:=hr;rw[e1]at k1;have hs:∃A cap,xv= .slice A l.length cap:=by
     cases k1 with
     |iQ=>exact⟨_,_,rfl⟩
     |g_=>exact⟨_,_,rfl⟩
     |list _ _ _ b o sz n cap xs hn=>subst hn;exact⟨_,_,rfl⟩
    obtain⟨A,cap,rfl⟩:=hs;refine .pure hm hl ho (dy (.int .i64 l.length) w ?_) (.int _ _ _);simp[bO,Builtin.len_,run_underlying hu,goInt]
   ·rename_i id off n cp e1;simp only[bj,aL]at hr;obtain⟨rfl,rfl,rfl⟩:=hr;rw[e1]at k1;cases k1;refine .pure hm hl ho (dy (.int .i64 n) w ?_) (.int _ _ _);simp[bO,Builtin.len_,run_underlying hu,goInt]
   ·cases hr
  ·rename_i k e x' hu hx;cases hc;have k1:=au _ _ hx;obtain⟨xv,bO⟩:∃xv,a.eval x=xv:=⟨_,rfl⟩;rw[bO]at k1;simp only[aF]at hr;split at hr
   ·rename_i e1;simp only[bj,aL]at hr;obtain⟨rfl,rfl,rfl⟩:=hr;rw[e1]at k1;cases k1;refine .pure hm hl ho (dy (.int .i64 0) w ?_) (.int _ _ _);simp[bO,Builtin.len_,run_underlying hu,goInt]
   ·rename_i id e1;split at hr
    ·rename_i es he;simp only[bj,aL]at hr;obtain⟨rfl,rfl,rfl⟩:=hr;rw[e1]at k1;obtain⟨b,dr,clock,rfl,-,-,-,h4,h5,-⟩:=HM hm k1 he;refine .pure hm hl ho (dy (.int .i64 es.length) w ?_) (.int _ _ _);simp[bO,Builtin.len_,run_underlying hu,goInt,run_getObj_map h4,h5]
    ·cases hr
   ·cases hr
  ·rename_i n e x' hu hx;cases hc;simp only[aF,bj,aL]at hr;obtain⟨rfl,rfl,rfl⟩:=hr;refine .pure hm hl ho (dy (.int .i64 n) w ?_) (.int _ _ _);generalize a.eval x=xv;cases xv<;>simp[Builtin.len_,run_underlying hu,goInt]
  ·cases hc
 ·cases hc
theorem ad6(au:eW g lb ev a)(hm:bc g own LC mem w)(hl:cQ g lb own loc w)(ho:bZ base own w){c:Call}(Ψ:o.op= .call c)(hb:c.callee= .builtin .append)
  (hc:bH P bN o=some ao) (hr:aF ev loc mem aH o.dst ao=some (v,u,m')):eM P base LC g lb own loc w a o v u m':=by
 simp only[bH,Ψ,hb]at hc;split at hc
 ·rename_i x y t t' jz uU;split at hc
  ·rename_i e x' y' hu hx hy;split at hc
   ·rename_i i ag z hi l7 hz;split at hc
    ·rename_i lL;subst lL;cases hc;have ph:(c.args.map a.eval)= #[a.eval x,a.eval y]:=by
      have:(c.args.map a.eval).toList=[a.eval x,a.eval y]:=by simp[jz]
      rw[<-wZ (xs:=c.args.map a.eval),this]
     have rb:c.argTypes= #[t,t]:=by rw[<-wZ (xs:=c.argTypes),uU]
     simp only[aF,bL,aL,Prod.exists]at hr;obtain⟨r,m1,hr,rfl,rfl,rfl⟩:=hr;obtain⟨zv,i',ae,pA,qt,mP,-,-,-,-⟩:=AT (P:=P) (g:=g) (lb:=lb) (w:=w) hz;rw[hi]at ae;cases ae;obtain⟨xr,w',h1,h2⟩:=VK (P:=P) (ty:=o.type) hm hl ho (au _ _ hx) (au _ _ hy) hu hi pA mP hr;refine⟨xr,w',.inl ?_,h2⟩;simp only[execOp,Ψ,resolve,hb,ph,rb,Sem.run_bind,Sem.run_pure,Result.andThen_ok,invoke,builtin,h1]
    ·cases hc
   ·cases hc
  ·cases hc
 ·cases hc
theorem Ho{kk:KK}{kt:TypeId}(hk:pC P kt=some kk){k:AV}{kv:Value}(nu:isKey kk k=true)(hv:VR g lb k kv)(em:Bool):
  (Instr.checkKey em 10000 kt kv).run P w= .ok () w/\∃d,P.underlying kt=some d/\∀(k':AV) (wG:Value) (r:Bool),VR g cd k' wG->jF k k'=some r->Instr.sameNow d kv wG=some r:=by
 have c_:∀d,P.underlying kt=some d->(∀ms,d≠ .interface ms)->(∀n e,d≠ .array n e)->(∀fs,d≠ .struct fs)->∀n,(Instr.checkKey em (n+1) kt kv).run P w= .ok () w:=by intro d hu h1 h2 h3 n;simp only[Instr.checkKey,Sem.run_bind,run_underlying hu,Result.andThen_ok];cases d<;>first|rfl|exact absurd rfl (h1 _)|exact absurd rfl (h2 _ _)|exact absurd rfl (h3 _)
 unfold pC at hk;split at hk
 ·rename_i q hu;cases hk;refine⟨c_ _ hu (by simp) (by simp) (by simp) 9999,_,hu,fun k' wG r nA hr=>?_⟩;cases k<;>simp[isKey]at nu;cases hv;cases k'<;>simp[jF]at hr;cases nA;simp only[Instr.sameNow];obtain⟨oI,rfl⟩:=hr;rw[if_pos oI];rfl
 ·rename_i hu;cases hk;refine⟨c_ _ hu (by simp) (by simp) (by simp) 9999,_,hu,fun k' wG r nA hr=>?_⟩;cases k<;>simp[isKey]at nu;cases hv;rename_i s bs fb;cases k'<;>simp[jF]at hr;cases nA;rename_i s' o8 YV;simp only[Instr.sameNow];subst hr;rw[beq_toListBytes,Ng fb YV]
 ·rename_i hu;cases hk;refine⟨c_ _ hu (by simp) (by simp) (by simp) 9999,_,hu,fun k' wG r nA hr=>?_⟩;cases k<;>simp[isKey]at nu;cases hv;cases k'<;>simp[jF]at hr;cases nA;simp only[Instr.sameNow];subst hr;rfl
 ·cases hk
def posOf(k:AV):List (AV×AV)->Nat->Option (Nat×AV)
 |[],_=>none
 |(k',v)::l,i=>if jF k k'=some true then some (i,v)else posOf k l (i+1)
theorem ED{kv:Value}{d:TypeDesc}{k:AV}(hs:∀(k':AV) (wG:Value) (r:Bool),VR g cd k' wG->jF k k'=some r->Instr.sameNow d kv wG=some r):
  ∀(es:List (AV×AV)) (dr:List MapEntry) (i:Nat),es.length=dr.length->(∀j (h:j<es.length) (h':j<dr.length),VR g cd es[j].1 dr[j].key/\VR g cd es[j].2 dr[j].val)→
  jo k es≠none->((jo k es=some none/\Instr.findNow d kv dr i=some none/\posOf k es i=none)∨
   ∃j v,jo k es=some (some v)/\posOf k es i=some (i+j,v)/\∃(h:j<es.length) (h':j<dr.length),v=es[j].2/\Instr.findNow d kv dr i=some (some (i+j,dr[j].val)))
 |[],[],i,_,_,_=> .inl ⟨rfl,rfl,rfl⟩
 |[],_::_,_,h,_,_=>by simp at h
 |_::_,[],_,h,_,_=>by simp at h
 |(k',v)::es,e::dr,i,hlen,hv,aj=>by
  have h0:=hv 0 (by simp) (by simp);simp only[mY]at h0;simp only[jo]at aj⊢;cases hk:jF k k' with
  |none=>rw[hk]at aj;exact absurd rfl aj
  |some r=>
   rw[hk]at aj
   have iy:=hs _ _ r h0.1 hk;cases r with
   |true=>exact .inr ⟨0,v,rfl,by simp[posOf,hk],by simp,by simp,rfl,by simp[Instr.findNow,iy]⟩
   |false=>
    dsimp only at aj⊢
    have ih:=ED hs es dr (i+1) (by simpa using hlen) (fun j h h'=>by have:=hv (j+1) (by simpa using h) (by simpa using h');simpa using this) aj;rcases ih with⟨h1,h2,h3⟩|⟨j,v',h1,h2,h3,h4,h5,h6⟩
    ·exact .inl ⟨h1,by simp[Instr.findNow,iy,h2],by simp[posOf,hk,h3]⟩
    ·refine .inr ⟨j+1,v',h1,?_,by simpa using h3,by simpa using h4,by simpa using h5,?_⟩
     ·simp only[posOf,hk];rw[if_neg (by simp),h2];simp;omega
     ·simp only[Instr.findNow,iy,h6,List.getElem_cons_succ];simp;omega
theorem yR{kv:Value}{kt:TypeId}{d:TypeDesc}{l:List MapEntry}{r:Option (Nat×Value)}(hu:P.underlying kt=some d)(h:Instr.findNow d kv l 0=some r):(Instr.findKey kt kv l).run P w= .ok r w:=by simp only[Instr.findKey,Sem.run_bind,run_underlying hu,Result.andThen_ok,h,Sem.run_pure]
theorem aek(au:eW g lb ev a)(hm:bc g own LC mem w)(hl:cQ g lb own loc w)(ho:bZ base own w){t:TypeId}{x y:Operand}{ok:Bool}(Ψ:o.op= .lookup t x y ok)
  (hc:bH P bN o=some ao) (hr:aF ev loc mem aH o.dst ao=some (v,u,m')):eM P base LC g lb own loc w a o v u m':=by
 simp only[bH,Ψ]at hc;split at hc
 ·rename_i kt e x' y' hu hx hy;split at hc
  ·rename_i z kk hz oI;cases hc;obtain⟨zv,R_,yn⟩:∃zv,(zeroValue e).run P w= .ok zv w/\VR g lb z zv:=by
    unfold UZ at hz;split at hz
    ·rename_i i hi;split at hz
     ·rename_i zv LO;exact⟨zv,by simp[zeroValue,typeInfo,hi,LO],IP hz⟩
     ·cases hz
    ·cases hz
   have eI:∀(g:Gh) (x:AV) (y:Value),VR g cd x y->VR g lb x y:=fun g x y h=>h.mono g.eP fun _ _ _ h=>by cases h
   have Lk:∀{r:AV} {rv:Value} {b:Bool},VR g lb r rv->VR g lb (if ok then .aO [r,.bool b]else r) (if ok then .tuple #[rv,.bool b]else rv):=fun{r rv b} h=>by
    cases ok
    ·exact h
    ·refine .aO _ _ _ rfl fun i hi ae=>?_
     match i,hi with
     |0,_=>exact h
     |1,_=>exact .bool _ _
   simp only[aF]at hr;split at hr
   ·rename_i e1;split at hr
    ·rename_i nu;simp only[bj,aL]at hr;obtain⟨rfl,rfl,rfl⟩:=hr;obtain⟨c_,d,tL,-⟩:=Ho (P:=P) (w:=w) oI nu (au _ _ hy) true;have k1:=au _ _ hx;rw[e1]at k1;obtain⟨xv,bO⟩:∃xv,a.eval x=xv:=⟨_,rfl⟩;rw[bO]at k1;cases k1;have qa:(Instr.findKey kt (a.eval y) []).run P w= .ok none w:=yR tL rfl;refine .pure hm hl ho ?_ (Lk (b:=false) yn);simp only[execOp,Ψ,bO,Instr.lookup,Sem.run_bind,run_underlying hu,Result.andThen_ok,Sem.run_pure];simp only[Array.isEmpty,Array.size_empty,decide_true,c_,Result.andThen_ok,qa,Sem.run_bind,R_,Sem.run_pure]
    ·cases hr
   ·rename_i id e1;split at hr
    ·rename_i es he;split at hr
     ·rename_i nu;simp only[bL]at hr;obtain⟨fr,l9,hr⟩:=hr;have k1:=au _ _ hx;rw[e1]at k1;obtain⟨xv,bO⟩:∃xv,a.eval x=xv:=⟨_,rfl⟩;rw[bO]at k1;obtain⟨b,dr,clock,rfl,h2,h3,h4,h5,h6,h7,-⟩:=HM hm k1 he;obtain⟨c_,d,tL,iy⟩:=Ho (P:=P) (w:=w) oI nu (au _ _ hy) dr.isEmpty;have nT:=ED iy es dr.toList 0 (by simpa using h6.symm) (fun j h h'=>by have:=h7 j h (by simpa using h');simpa using this) (by rw[l9];simp);rcases nT with⟨f1,f2,-⟩|⟨j,v',f1,-,f3,f4,f5,f6⟩
      ·rw[l9]at f1;cases f1;simp only[aL]at hr;obtain⟨rfl,rfl,rfl⟩:=hr;have qa:(Instr.findKey kt (a.eval y) dr.toList).run P w= .ok none w:=yR tL f2;refine .pure hm hl ho ?_ (Lk (b:=false) yn);simp only[execOp,Ψ,bO,Instr.lookup,Sem.run_bind,run_underlying hu,Result.andThen_ok,run_getObj_map h5,Sem.run_pure,c_,qa,R_]
      ·rw[l9]at f1;cases f1;simp only[aL]at hr;obtain⟨rfl,rfl,rfl⟩:=hr;subst f5;have Aj:=(h7 j f3 (by simpa using f4)).2;have qa:(Instr.findKey kt (a.eval y) dr.toList).run P w= .ok (some (0+j,dr.toList[j].val)) w:=yR tL f6;refine .pure hm hl ho ?_ (Lk (b:=true) (eI _ _ _ Aj));simp only[execOp,Ψ,bO,Instr.lookup,Sem.run_bind,run_underlying hu,Result.andThen_ok,run_getObj_map h5,Sem.run_pure,c_,qa,mz]
     ·cases hr
    ·cases hr
   ·cases hr
  ·cases hc
 ·cases hc
theorem Tp{k v:AV}:∀(es r:List (AV×AV)) (i:Nat),tP k v es=some r->(jo k es=some none/\posOf k es i=none/\r=es++[(k,v)])∨
  ∃j v',jo k es=some (some v')/\posOf k es i=some (i+j,v')/\(∃h:j<es.length,jF k es[j].1=some true)/\r=es.set j (k,v)
 |[],r,i,h=>by cases h;exact .inl ⟨rfl,rfl,rfl⟩
 |(k',v')::es,r,i,h=>by
  simp only[tP]at h;cases hk:jF k k' with
  |none=>rw[hk]at h;cases h
  |some t=>
   rw[hk]at h
   cases t with
   |true=>cases h;exact .inr ⟨0,v',by simp[jo,hk],by simp[posOf,hk],⟨by simp,hk⟩,rfl⟩
   |false=>
    simp only[bL]at h
    obtain⟨r',h,rfl⟩:=h;rcases Tp es r' (i+1) h with⟨h1,h2,rfl⟩|⟨j,v2,h1,h2,⟨h3,gi⟩,rfl⟩
    ·exact .inl ⟨by simp[jo,hk,h1],by simp[posOf,hk,h2],rfl⟩
    ·exact .inr ⟨j+1,v2,by simp[jo,hk,h1],by simp[posOf,hk,h2];omega,⟨by simpa using h3,by simpa using gi⟩,rfl⟩
theorem Tm{k:AV}:∀(es r:List (AV×AV)) (i:Nat),wI k es=some r->(jo k es=some none/\posOf k es i=none/\r=es)∨
  ∃j v',jo k es=some (some v')/\posOf k es i=some (i+j,v')/\j<es.length/\r=es.eraseIdx j
 |[],r,i,h=>by cases h;exact .inl ⟨rfl,rfl,rfl⟩
 |(k',v')::es,r,i,h=>by
  simp only[wI]at h;cases hk:jF k k' with
  |none=>rw[hk]at h;cases h
  |some t=>
   rw[hk]at h
   cases t with
   |true=>cases h;exact .inr ⟨0,v',by simp[jo,hk],by simp[posOf,hk],by simp,rfl⟩
   |false=>
    simp only[bL]at h
    obtain⟨r',h,rfl⟩:=h;rcases Tm es r' (i+1) h with⟨h1,h2,rfl⟩|⟨j,v2,h1,h2,h3,rfl⟩
    ·exact .inl ⟨by simp[jo,hk,h1],by simp[posOf,hk,h2],rfl⟩
    ·exact .inr ⟨j+1,v2,by simp[jo,hk,h1],by simp[posOf,hk,h2];omega,by simpa using h3,rfl⟩
def fp(w:World)(b:Nat)(o:Obj):World:= {w with heap:=w.heap.setIfInBounds b o}
theorem Di(hm:bc g own LC mem w)(hl:cQ g lb own loc w)(ho:bZ base own w){id b:Nat}{x:Obj}{blk:θ}(hb:own b=some (.m id))(hid:id<mem.ε.length)
  (cJ:∀o,g.im b o=none) (sE:s_ g own LC (fp w b x) id blk):
  iW base LC g lb own loc w .undef none (mem.put id blk true) undef (fp w b x):=by
 have jg:∀b',b'≠b->(fp w b x).heap[b']?=w.heap[b']?:=fun b' aj=>by simp only[fp];rw[Iu (Ne.symm aj)]
 refine⟨g,lb,own,⟨g.eP,by simp[fp],rfl,rfl,rfl,fun b' _ ho=>jg b' (by rintro rfl;rw[hb]at ho;cases ho),fun _ _ h=>h,fun _ _ _ _=>rfl⟩,fun _ _ _ h=>h,.undef _,?_,?_,?_⟩
 ·refine hm.Iq hid g.eP (fun _ h=>h) (fun _ _ _ h=>h) (fun nC b' aj aX=>⟨rfl,jg b' ?_,fun _=>rfl⟩) sE (fun b' o y hy=>?_)
  ·rintro rfl;rw[hb]at aX;cases aX;exact aj rfl
  ·have aj:b'≠b:=by rintro rfl;rw[cJ]at hy;cases hy
   rw[pO (jg b' aj)];exact hm.im _ _ _ hy
 ·exact hl.bD g.eP fun d b' aX=>⟨rfl,jg b' (by rintro rfl;rw[hb]at aX;cases aX),fun _=>rfl⟩
 ·exact⟨fun b' o aX=>by simpa[fp]using ho.ge b' o aX,by simpa[fp]using ho.base⟩
theorem run_setObj_map{b:Nat}{dr:Array MapEntry}{clock:Nat}(h:w.heap[b]?=some (.map dr clock))(x:Obj):(setObj b x).run P w= .ok () (fp w b x):=by simp only[setObj,Sem.run,h];rfl
theorem AJ{b:Nat}{y:Obj}(h:w.heap[b]?=some y)(x:Obj):(fp w b x).heap[b]?=some x:=by have ν:=(Array.getElem?_eq_some_iff.1 h).1;simp[fp,ν]
end
mutual
theorem BL(n:Nat)(k:Bool):∀v:AV,plain v=true->exp n k v=v
 | .undef,_=>rfl
 | .dd,_=>rfl
 | .int _ _,_=>rfl
 | .bool _,_=>rfl
 | .str _,_=>rfl
 | .iR,_=>rfl
 | .Ω _ _ _,h=>by simp[plain]at h
 | .μ _ _,h=>by simp[plain]at h
 | .ref _,h=>by simp[plain]at h
 | .list c l,h=>by simp only[plain,kj,ahO,decide_eq_true_eq]at h;obtain⟨rfl|rfl,h⟩:=h<;>simp only[exp,Γ.exp,EB n k l h]
 | .sl _ _ _ _ _,h=>by simp[plain]at h
 | .agg l,h=>by simp only[plain]at h;simp only[exp,EB n k l h]
 | .aO l,h=>by simp only[plain]at h;simp only[exp,EB n k l h]
 | .fn (.func f) [] [],_=>rfl
 | .fn (.func f) (_::_) _,h=>by simp[plain]at h
 | .fn (.func f) [] (_::_),h=>by simp[plain]at h
 | .fn (.method _) _ _,h=>by simp[plain]at h
 | .fn (.methodOf _ _) _ _,h=>by simp[plain]at h
 | .fn (.via _ _ _ _) _ _,h=>by simp[plain]at h
 | .fn (.yield _) _ _,h=>by simp[plain]at h
 | .eU,_=>rfl
 | .iface t v,h=>by simp only[plain]at h;simp only[exp,BL n k v h]
 | .ga,_=>rfl
 | .map _,h=>by simp[plain]at h
 | .fP,_=>rfl
theorem EB(n:Nat)(k:Bool):∀l:List AV,rA l=true->bn n k l=l
 |[],_=>rfl
 |v::l,h=>by simp only[rA,kj]at h;simp only[bn,BL n k v h.1,EB n k l h.2]
end
mutual
theorem Th(n:Nat):∀v:AV,plain v=true->lo n v=true
 | .undef,_=>rfl
 | .dd,_=>rfl
 | .int _ _,_=>rfl
 | .bool _,_=>rfl
 | .str _,_=>rfl
 | .iR,_=>rfl
 | .Ω _ _ _,h=>by simp[plain]at h
 | .μ _ _,h=>by simp[plain]at h
 | .ref _,h=>by simp[plain]at h
 | .list c l,h=>by simp only[plain,kj,ahO,decide_eq_true_eq]at h;obtain⟨rfl|rfl,h⟩:=h<;>simp only[lo,Γ.lo,HJ n l h,vq]
 | .sl _ _ _ _ _,h=>by simp[plain]at h
 | .agg l,h=>by simp only[plain]at h;simp only[lo,HJ n l h]
 | .aO l,h=>by simp only[plain]at h;simp only[lo,HJ n l h]
 | .fn (.func f) [] [],_=>rfl
 | .fn (.func f) (_::_) _,h=>by simp[plain]at h
 | .fn (.func f) [] (_::_),h=>by simp[plain]at h
 | .fn (.method _) _ _,h=>by simp[plain]at h
 | .fn (.methodOf _ _) _ _,h=>by simp[plain]at h
 | .fn (.via _ _ _ _) _ _,h=>by simp[plain]at h
 | .fn (.yield _) _ _,h=>by simp[plain]at h
 | .eU,_=>rfl
 | .iface t v,h=>by simp only[plain]at h;simp only[lo,Th n v h]
 | .ga,_=>rfl
 | .map _,h=>by simp[plain]at h
 | .fP,_=>rfl
theorem HJ(n:Nat):∀l:List AV,rA l=true->bh n l=true
 |[],_=>rfl
 |v::l,h=>by simp only[rA,kj]at h;simp only[bh,Th n v h.1,HJ n l h.2,vq]
end
section
variable{P:Program}{base:Nat}{LC:eX}{g:Gh}{lb:LB}{own:OW}{loc:Nat->Option (Nat×θ)}{mem:Mem}{w:World}{bN:Nat->Bool}{aH:cM}
variable{ev:bp->AV}{a:Act}{o:Oper}{ao:AO}{v:AV}{u:lA}{m':Mem}
theorem VR.plain{v:AV}{x:Value}(h:VR g lb v x)(hp:plain v=true):VR g cd v x:=by
 have h1:=VR.exp (lb':=cd) 0 true h;rw[BL 0 true v hp]at h1;have hs:(g.cut 0).sub g:=by
  refine⟨fun _ _ _ h=>h,fun id b hb=>?_,fun t n x hx=>?_⟩
  ·simp[Gh.cut]at hb
  ·simp[Gh.cut]at hx
 exact VR.sub hs h1
theorem ac9{kk:KK}{k:AV}{x:Value}(h:VR g lb k x)(hk:isKey kk k=true):VR g cd k x:=by refine h.plain ?_;cases kk<;>cases k<;>simp_all [isKey,ab.plain]
theorem af7{lb':LB}{k k':AV}{x x':Value}(h:VR g lb k x)(h':VR g lb' k' x')(he:jF k k'=some true):∀n,Instr.sameBits n x' x=true:=by
 intro n;cases k<;>cases k'<;>simp[jF]at he
 ·cases h;cases h';obtain⟨rfl,rfl⟩:=he;cases n<;>simp[Instr.sameBits]
 ·cases h;cases h';subst he;cases n<;>simp[Instr.sameBits]
 ·cases h;cases h';rename_i b1 h1 b2 h2;subst he;have:b2.data.toList=b1.data.toList:=Tr (h2.trans h1.symm);have hb:b2=b1:=by obtain⟨⟨l1⟩⟩:=b1;obtain⟨⟨l2⟩⟩:=b2;simp at this;subst this;rfl
  subst hb;have:(b2==b2)=true:=by rw[beq_toListBytes];simp
  cases n<;>simp[Instr.sameBits,this]
theorem So{kk:KK}{k:AV}(hk:isKey kk k=true):plain k=true:=by unfold isKey at hk;split at hk<;>first|rfl|(cases hk;done)
theorem TG(au:eW g lb ev a)(hm:bc g own LC mem w)(hl:cQ g lb own loc w)(ho:bZ base own w){t:TypeId}{x y z:Operand}(Ψ:o.op= .mapUpdate t x y z)
  (hc:bH P bN o=some ao) (hr:aF ev loc mem aH o.dst ao=some (v,u,m')):eM P base LC g lb own loc w a o v u m':=by
 simp only[bH,Ψ]at hc;split at hc
 ·rename_i kt et x' y' z' hu hx hy hz;simp only[bL]at hc;obtain⟨kk,oI,rfl⟩:=hc;simp only[aF]at hr;split at hr
  ·rename_i id e1;split at hr
   ·rename_i es he;split at hr
    ·rename_i jO;simp only[kj]at jO;obtain⟨nu,cm⟩:=jO;simp only[bL,aL]at hr;obtain⟨eR,Kv,rfl,rfl,rfl⟩:=hr;have k1:=au _ _ hx;rw[e1]at k1;obtain⟨xv,bO⟩:∃xv,a.eval x=xv:=⟨_,rfl⟩;rw[bO]at k1;obtain⟨b,dr,clock,rfl,h2,h3,h4,h5,h6,h7,h8⟩:=HM hm k1 he;have hid:id<mem.ε.length:=hm.ja id b h2;obtain⟨c_,d,tL,iy⟩:=Ho (P:=P) (w:=w) oI nu (au _ _ hy) false;have Rx:=ac9 (au _ _ hy) nu;have yn:=(au _ _ hz).plain cm;have nV:=Tp es eR 0 Kv;have nT:=ED iy es dr.toList 0 (by simpa using h6.symm) (fun j h h'=>by have:=h7 j h (by simpa using h');simpa using this) (by rcases nV with⟨h,_⟩|⟨_,_,h,_⟩<;>rw[h]<;>simp);rcases nV with⟨f1,f2,rfl⟩|⟨j,v',f1,f2,f3,rfl⟩
     ·have g2:Instr.findNow d (a.eval y) dr.toList 0=some none:=by
       rcases nT with⟨_,g2,_⟩|⟨j,v',g1,_⟩
       ·exact g2
       ·rw[f1]at g1;cases g1
      have qa:(Instr.findKey kt (a.eval y) dr.toList).run P w= .ok none w:=yR tL g2;refine⟨undef,fp w b (.map (dr.push {key:=a.eval y,val:=a.eval z,born:=clock}) (clock+1)),.inr ⟨?_,rfl⟩,Di hm hl ho h3 hid h4 ?_⟩
      ·simp only[execOp,Ψ,bO,Instr.mapUpdate,Sem.run_bind,run_underlying hu,Result.andThen_ok,run_getObj_map h5,c_,qa,run_setObj_map h5];rfl
      ·refine⟨b,h2,h3,h4,_,_,AJ h5 _,by simp[h6],fun i hi ae=>?_,fun p hp=>?_⟩;rcases Nat.lt_or_ge i es.length with ν|cD
       ·have dE:i<dr.size:=by omega
        simp only[List.getElem_append_left ν,ahP,dE,dite_true];exact h7 i ν dE
       ·have oG:i=es.length:=by simp at hi;omega
        subst oG;have:¬es.length<dr.size:=by omega
        simp only[List.getElem_append_right (bQ _),Nat.sub_self,mY,ahP,this,dite_false];exact⟨Rx,yn⟩
       ·rcases eL.1 hp with hp|hp
        ·exact h8 p hp
        ·obtain rfl:p=_:=by simpa using hp
         exact⟨So nu,cm⟩
     ·obtain⟨hj,KQ⟩:=f3;obtain⟨dD,qa⟩:∃dD:j<dr.size,(Instr.findKey kt (a.eval y) dr.toList).run P w= .ok (some (j,dr[j].val)) w:=by
       rcases nT with⟨g1,_⟩|⟨j2,v2,g1,g2,g3,g4,g5,g6⟩
       ·rw[f1]at g1;cases g1
       ·rw[f2]at g2;simp only[bj,aL,ly]at g2;obtain⟨rfl,-⟩:=g2;refine⟨by simpa using g4,?_⟩;have:=yR (P:=P) (w:=w) tL g6;simpa using this
      have Ha:=af7 (au _ _ hy) (h7 j hj dD).1 KQ 10000;refine⟨undef,fp w b (.map (dr.modify j fun e=> {e with key:=a.eval y,val:=a.eval z}) clock),.inr ⟨?_,rfl⟩,Di hm hl ho h3 hid h4 ?_⟩
      ·simp only[execOp,Ψ,bO,Instr.mapUpdate,Sem.run_bind,run_underlying hu,Result.andThen_ok,run_getObj_map h5,c_,qa,vo dD,rR,Option.getD_some,Instr.keyThatStays,Ha,if_true,Sem.run_pure,run_setObj_map h5]
      ·refine⟨b,h2,h3,h4,_,_,AJ h5 _,by simp[h6],fun i hi ae=>?_,fun p hp=>?_⟩;have oG:i<es.length:=by simpa using hi
       have KG:i<dr.size:=by omega
       simp only[List.getElem_set,Array.getElem_modify];by_cases nU:j=i
       ·subst nU;simp only[if_true];exact⟨Rx,yn⟩
       ·simp only[nU,if_false];exact h7 i oG KG
       ·rcases List.mem_or_eq_of_mem_set hp with hp|rfl
        ·exact h8 p hp
        ·exact⟨So nu,cm⟩
    ·cases hr
   ·cases hr
  ·cases hr
 ·cases hc
theorem TI(hm:bc g own LC mem w)(hl:cQ g lb own loc w)(ho:bZ base own w){t:TypeId}(Ψ:o.op= .makeMap t none)
  (hc:bH P bN o=some ao) (hr:aF ev loc mem aH o.dst ao=some (v,u,m')):eM P base LC g lb own loc w a o v u m':=by
 simp only[bH,Ψ]at hc;cases hc;simp only[aF,bj,aL]at hr;obtain⟨rfl,rfl,rfl⟩:=hr;let g':Gh:= {g with mb:=fun id=>if id=mem.ε.length then some w.heap.size else g.mb id};have ef:g.sub g':=⟨fun _ _ _ h=>h,fun id b hb=>by
  have:=hm.ja id b hb
  simp only[g'];rw[if_neg (by omega)];exact hb,fun _ _ _ h=>h⟩
 have τ:=ep.alloc g own w (.map #[] 0) (some (.m mem.ε.length));refine⟨.map (some w.heap.size),w.alloc (.map #[] 0),.inl ?_,g',lb,_,⟨ef,τ.size,τ.os,τ.tape,τ.output,τ.bD,τ.kg,τ.im⟩,fun _ _ _ h=>h,.map _ _ _ (by simp[g']),?_,?_,ho.alloc _ _⟩
 ·simp only[execOp,Ψ,ahL,Instr.makeMap,Sem.run_bind,run_newObj,Result.andThen_ok,Sem.run_pure];rfl
 ·refine hm.push (hm.alloc ho _ _) _ _ (fun id b hb=>?_) (fun id hid=>?_) ?_
  ·split at hb
   ·exact .inr (by assumption)
   ·exact .inl hb
  ·exact if_neg (by omega)
  ·exact⟨w.heap.size,by simp,by simp[gr],(show∀o,g.im w.heap.size o=none from wD hm),#[],0,pZ w _,rfl,fun i h=>by simp at h,fun p hp=>by cases hp⟩
 ·exact(hl.alloc ho _ _).bD ef fun _ _ _=>⟨rfl,rfl,fun _=>rfl⟩
theorem aeb(au:eW g lb ev a)(hm:bc g own LC mem w)(hl:cQ g lb own loc w)(ho:bZ base own w){c:Call}(Ψ:o.op= .call c)(hb:c.callee= .builtin .delete)
  (hc:bH P bN o=some ao) (hr:aF ev loc mem aH o.dst ao=some (v,u,m')):eM P base LC g lb own loc w a o v u m':=by
 simp only[bH,Ψ,hb]at hc;split at hc
 ·rename_i x y t ts jz uU;split at hc
  ·rename_i kt et x' y' hu hx hy;simp only[bL]at hc;obtain⟨kk,oI,rfl⟩:=hc;have ph:(c.args.map a.eval)= #[a.eval x,a.eval y]:=by
    have:(c.args.map a.eval).toList=[a.eval x,a.eval y]:=by simp[jz]
    rw[<-wZ (xs:=c.args.map a.eval),this]
   have rb:c.argTypes[0]?=some t:=by rw[<-Array.getElem?_toList,uU];rfl
   simp only[aF]at hr;split at hr
   ·rename_i id e1;split at hr
    ·rename_i es he;split at hr
     ·rename_i nu;simp only[bL,aL]at hr;obtain⟨eR,Kv,rfl,rfl,rfl⟩:=hr;have k1:=au _ _ hx;rw[e1]at k1;obtain⟨xv,bO⟩:∃xv,a.eval x=xv:=⟨_,rfl⟩;rw[bO]at k1;obtain⟨b,dr,clock,rfl,h2,h3,h4,h5,h6,h7,h8⟩:=HM hm k1 he;have hid:id<mem.ε.length:=hm.ja id b h2;obtain⟨c_,d,tL,iy⟩:=Ho (P:=P) (w:=w) oI nu (au _ _ hy) dr.isEmpty;have nV:=Tm es eR 0 Kv;have nT:=ED iy es dr.toList 0 (by simpa using h6.symm) (fun j h h'=>by have:=h7 j h (by simpa using h');simpa using this) (by rcases nV with⟨h,_⟩|⟨_,_,h,_⟩<;>rw[h]<;>simp);rcases nV with⟨f1,f2,rfl⟩|⟨j,v',f1,f2,hj,rfl⟩
      ·have g2:Instr.findNow d (a.eval y) dr.toList 0=some none:=by
        rcases nT with⟨_,g2,_⟩|⟨j,v',g1,_⟩
        ·exact g2
        ·rw[f1]at g1;cases g1
       have qa:(Instr.findKey kt (a.eval y) dr.toList).run P w= .ok none w:=yR tL g2;refine⟨undef,fp w b (.map dr clock),.inl ?_,Di hm hl ho h3 hid h4 ⟨b,h2,h3,h4,_,_,AJ h5 _,h6,h7,h8⟩⟩;simp only[execOp,Ψ,resolve,hb,ph,Sem.run_bind,Sem.run_pure,Result.andThen_ok,invoke,builtin,Builtin.delete_,rb,bO];simp[run_underlying hu,run_getObj_map h5,c_,qa,run_setObj_map h5,undef]
      ·obtain⟨dD,qa⟩:∃dD:j<dr.size,(Instr.findKey kt (a.eval y) dr.toList).run P w= .ok (some (j,dr[j].val)) w:=by
        rcases nT with⟨g1,_⟩|⟨j2,v2,g1,g2,g3,g4,g5,g6⟩
        ·rw[f1]at g1;cases g1
        ·rw[f2]at g2;simp only[bj,aL,ly]at g2;obtain⟨rfl,-⟩:=g2;refine⟨by simpa using g4,?_⟩;have:=yR (P:=P) (w:=w) tL g6;simpa using this
       refine⟨undef,fp w b (.map (dr.eraseIdxIfInBounds j) clock),.inl ?_,Di hm hl ho h3 hid h4 ⟨b,h2,h3,h4,_,_,AJ h5 _,?_,fun i hi ae=>?_,fun p hp=>h8 p (List.mem_of_mem_eraseIdx hp)⟩⟩
       ·simp only[execOp,Ψ,resolve,hb,ph,Sem.run_bind,Sem.run_pure,Result.andThen_ok,invoke,builtin,Builtin.delete_,rb,bO];simp[run_underlying hu,run_getObj_map h5,c_,qa,run_setObj_map h5,undef]
       ·have e1:(dr.eraseIdxIfInBounds j).size=dr.size-1:=by simp[ahQ,dD]
        rw[e1,ahR hj,h6]
       ·have e1:(dr.eraseIdxIfInBounds j)=dr.eraseIdx j dD:=by simp[ahQ,dD]
        have oG:i<es.length-1:=by rw[ahR hj]at hi;exact hi
        simp only[e1,List.getElem_eraseIdx,Array.getElem_eraseIdx];by_cases nU:i<j
        ·simp only[nU,dite_true];exact h7 i (by omega) (by omega)
        ·simp only[nU,dite_false];exact h7 (i+1) (by omega) (by omega)
     ·cases hr
    ·cases hr
   ·cases hr
  ·cases hc
 ·cases hc
theorem aet(au:eW g lb ev a)(hm:bc g own LC mem w)(hl:cQ g lb own loc w)(ho:bZ base own w){t:TypeId}{x:Operand}(Ψ:o.op= .range t x)
  (hc:bH P bN o=some ao) (hr:aF ev loc mem aH o.dst ao=some (v,u,m')):eM P base LC g lb own loc w a o v u m':=by
 simp only[bH,Ψ]at hc;split at hc
 ·rename_i x' hu hx;cases hc;simp only[aF]at hr;split at hr
  ·rename_i s d e1 e2;simp only[bj,aL]at hr;obtain⟨rfl,rfl,rfl⟩:=hr;have k1:=au _ _ hx;rw[e1]at k1;obtain⟨xv,bO⟩:∃xv,a.eval x=xv:=⟨_,rfl⟩;rw[bO]at k1;cases k1 with
   |str _ bs _ fb=>
    refine⟨.pointer (some ⟨w.heap.size,0,none⟩),w.alloc (.stringIter bs 0),.inl ?_,g,sO lb d (aQ loc d) w.heap.size,_,.alloc g own w _ (some (.l d)),HF hl d _,.Ω _ _ _ _ _ (by simp[sO]),hm.alloc ho _ _,?_,ho.alloc _ _⟩
    ·simp only[execOp,Ψ,bO,Instr.range,Sem.run_bind,run_underlying hu,Result.andThen_ok,Sem.run_pure,run_newObj];rfl
    ·refine hl.new ho d _ _ (fun l' gY=>by cases gY) (fun s' pos h=>?_);cases h;exact⟨wD hm,bs,rfl,fb⟩
  ·cases hr
 ·cases hc
theorem UA{b:Nat}{bs:ByteArray}{pos:Nat}(h:w.heap[b]?=some (.stringIter bs pos)):(getObj b).run P w= .ok (.stringIter bs pos) w:=by simp only[getObj,Sem.run,h]
theorem afK{b:Nat}{bs:ByteArray}{pos:Nat}(h:w.heap[b]?=some (.stringIter bs pos))(x:Obj):(setObj b x).run P w= .ok () (fp w b x):=by simp only[setObj,Sem.run,h];rfl
theorem Wk{bs:ByteArray}{s:List Nat}(h:bs.data.toList.map UInt8.toNat=s):(⟨(s.map UInt8.ofNat).toArray⟩:ByteArray)=bs:=by subst h;obtain⟨⟨l⟩⟩:=bs;simp[di,Function.comp_def]
theorem aer(au:eW g lb ev a)(hm:bc g own LC mem w)(hl:cQ g lb own loc w)(ho:bZ base own w){x:Operand}(Ψ:o.op= .next x true)
  (hc:bH P bN o=some ao) (hr:aF ev loc mem aH o.dst ao=some (v,u,m')):eM P base LC g lb own loc w a o v u m':=by
 simp only[bH,Ψ,bL]at hc;obtain⟨x',hx,rfl⟩:=hc;simp only[aF]at hr;split at hr
 ·rename_i d vk e1;split at hr
  ·rename_i v' s pos hd;split at hr
   ·rename_i hv;subst hv;have k1:=au _ _ hx;rw[e1]at k1;obtain⟨xv,bO⟩:∃xv,a.eval x=xv:=⟨_,rfl⟩;rw[bO]at k1;cases k1 with
    |Ω _ _ _ _ b hb=>
     obtain⟨b',aX,fM,cJ,bs,fb,hs⟩:=hl.iter d _ s pos hd
     rw[hb]at aX;cases aX;have hlen:=Dk hs;split at hr
     ·rename_i ji;simp only[bj,aL,Wk hs]at hr;obtain⟨rfl,rfl,rfl⟩:=hr;have jg:∀b',b'≠b->(fp w b (.stringIter bs (pos+(Utf8.decode bs pos).2))).heap[b']?=w.heap[b']?:=fun b' aj=>by simp only[fp];rw[Iu (Ne.symm aj)]
      refine⟨.tuple #[.bool true,.int .i64 pos,.int .i32 (Utf8.decode bs pos).1],fp w b (.stringIter bs (pos+(Utf8.decode bs pos).2)),.inl ?_,g,lb,own,
       ⟨g.eP,by simp[fp],rfl,rfl,rfl,fun b' _ ho=>jg b' (by rintro rfl;rw[fM]at ho;cases ho),fun _ _ h=>h,fun _ _ _ _=>rfl⟩,fun _ _ _ h=>h,?_,?_,?_,?_⟩
      ·simp only[execOp,Ψ,bO,Instr.next,Sem.run_bind,UA fb,Result.andThen_ok];rw[if_pos (by rw[hlen];exact ji)];simp only[Sem.run_bind,afK fb,Result.andThen_ok,Sem.run_pure];rfl
      ·refine .aO _ _ _ rfl fun i hi ae=>?_
       match i,hi with
       |0,_=>exact .bool _ _
       |1,_=>exact .int _ _ _
       |2,_=>exact .int _ _ _
      ·refine hm.bD g.eP (fun _ h=>h) (fun _ _ h=>h) (fun id b' aX=>⟨rfl,jg b' ?_,fun _=>rfl⟩) (fun b' o y hy=>?_)
       ·rintro rfl;rw[fM]at aX;cases aX
       ·have aj:b'≠b:=by rintro rfl;rw[cJ]at hy;cases hy
        rw[pO (jg b' aj)];exact hm.im _ _ _ hy
      ·have fR:(fp w b (.stringIter bs (pos+(Utf8.decode bs pos).2))).heap[b]?=some (.stringIter bs (pos+(Utf8.decode bs pos).2)):=AJ fb _;refine⟨fun d' i l' jA=>?_,fun d' i s' pos' jA=>?_,fun d' i b' aX=>?_⟩
       ·simp only[nI]at jA;split at jA
        ·cases jA
        ·rename_i gn;obtain⟨b2,q1,q2⟩:=hl.cells d' i l' jA;have aj:b2≠b:=by rintro rfl;have:=q2.1;rw[fM]at this;cases this;exact gn rfl
         exact⟨b2,q1,q2.bD g.eP (fun _ _ _ h=>h) rfl (jg b2 aj) fun _=>rfl⟩
       ·simp only[nI]at jA;split at jA
        ·rename_i gn;subst gn;cases jA;exact⟨b,hb,fM,cJ,bs,fR,hs⟩
        ·rename_i gn;obtain⟨b2,q1,q2,q3,Wi,q4,q5⟩:=hl.iter d' i s' pos' jA;have aj:b2≠b:=by rintro rfl;rw[fM]at q2;cases q2;exact gn rfl
         exact⟨b2,q1,q2,q3,Wi,(jg b2 aj).trans q4,q5⟩
       ·obtain⟨v2,IZ,q1,q2⟩:=hl.vk d' i b' aX;by_cases gn:d=d'
        ·subst gn;rw[hd]at q1;cases q1;exact⟨_,.iter s (pos+(Utf8.decode bs pos).2),by simp[nI],q2⟩
        ·exact⟨v2,IZ,by simp[nI,gn,q1],q2⟩
      ·exact⟨fun b' o aX=>by simpa[fp]using ho.ge b' o aX,by simpa[fp]using ho.base⟩
     ·rename_i ji;simp only[bj,aL]at hr;obtain⟨rfl,rfl,rfl⟩:=hr;refine .pure hm hl ho (x:= .tuple #[.bool false]) ?_ (.aO _ _ _ rfl fun i hi ae=>by
       match i,hi with
       |0,_=>exact .bool _ _)
      simp only[execOp,Ψ,bO,Instr.next,Sem.run_bind,UA fb,Result.andThen_ok];rw[if_neg (by rw[hlen];exact ji)];rfl
   ·cases hr
  ·cases hr
 ·cases hr
end
end Go.ab
