import Derived.Test.YtiigojkfojnedaaGreatDoorSLa
import Derived.Test.YtiigojkfojnedaaGreatDoorProg
set_option linter.all false
set_option maxRecDepth 100000
set_option maxHeartbeats 8000000
open Nat renaming beq->gj,blt->qv
namespace Go.Θ
def AC.sub:List Nat->AC->AC
  |0::p,.seq a _=>a.sub p
  |_::p,.seq _ b=>b.sub p
  |0::p,.cond _ a _=>a.sub p
  |_::p,.cond _ _ b=>b.sub p
  |_::p,.block _ a=>a.sub p
  |_::p,.loop a=>a.sub p
  |_,a=>a
def AC.put(x:AC):List Nat->AC->AC
  |0::p,.seq a b=> .seq (AC.put x p a) b
  |_::p,.seq a b=> .seq a (AC.put x p b)
  |0::p,.cond c a b=> .cond c (AC.put x p a) b
  |_::p,.cond c a b=> .cond c a (AC.put x p b)
  |_::p,.block i a=> .block i (AC.put x p a)
  |_::p,.loop a=> .loop (AC.put x p a)
  |_,_=>x
end Go.Θ
namespace Go.Θ.Sh
open Go.Θ
def m(d a:Nat):aW:=⟨some d,.mv (.t a),none⟩
def l(d s a:Nat):aW:=⟨some d,.ld false s (.t a),none⟩
def lt(d s a:Nat):aW:=⟨some d,.ld true s (.t a),none⟩
def f(d n a:Nat):aW:=⟨some d,.fa n (.t a),none⟩
def mi(d:Nat)(v:Int):aW:=⟨some d,.mv (.c (.int .i64 v)),none⟩
def mc(d:Nat)(v:AV):aW:=⟨some d,.mv (.c v),none⟩
def c1(d k a:Nat):aW:=⟨some d,.call (.c (.fn (.func k) [] [])) [.t a],none⟩
def c2(d k a b:Nat):aW:=⟨some d,.call (.c (.fn (.func k) [] [])) [.t a,.t b],none⟩
def st(s a b:Nat):aW:=⟨none,.st s (.t a) (.t b),none⟩
def bi(x:BinOp)(d a:Nat)(v:Int):aW:=⟨some d,.bin x (.t a) (.c (.int .i64 v)),none⟩
def bt(x:BinOp)(d a b:Nat):aW:=⟨some d,.bin x (.t a) (.t b),none⟩
def ia(d n a b:Nat):aW:=⟨some d,.ia n (.t a) (.t b),none⟩
def an(d a b:Nat):aW:=⟨some d,.pick (.t a) (.t b) (.c (.bool false)),none⟩
def oo(d a b:Nat):aW:=⟨some d,.pick (.t a) (.c (.bool true)) (.t b),none⟩
def ln(d a:Nat):aW:=⟨some d,.len (.t a),none⟩
def o(d:Nat)(x:AO):aW:=⟨some d,x,none⟩
def og(d g:Nat)(x:AO):aW:=⟨some d,x,some (g,false)⟩
def oh(d g:Nat)(x:AO):aW:=⟨some d,x,some (g,true)⟩
def s(l:List aW)(a:AC):AC:= .seq (.ops l) a
def k(a:Nat)(x y:AC):AC:= .cond (.t a) x y
def rl(l:List (Nat×Bool)):List AV:=l.flatMap fun p=>List.replicate p.1 (.bool p.2)
def z:AV:= .int .i64 0
def i(v:Int):br:= .c (.int .i64 v)
def bk(x:BinOp)(a:Nat)(v:Int):AO:= .bin x (.t a) (.c (.int .i64 v))
def nt(a:Nat):AO:= .un .not (.t a)
def lh(d g s a:Nat):aW:=⟨some d,.ld false s (.t a),some (g,true)⟩
def lg(d g s a:Nat):aW:=⟨some d,.ld false s (.t a),some (g,false)⟩
def fh(d g s a:Nat):aW:=⟨some d,.fa s (.t a),some (g,true)⟩
def fg(d g s a:Nat):aW:=⟨some d,.fa s (.t a),some (g,false)⟩
def bx(d s a:Nat):aW:=⟨some d,.box false s (.t a),none⟩
def nc(d a:Nat):aW:=⟨some d,.Je (.t a),none⟩
def al(d:Nat)(l:List AV):aW:=⟨some d,.alloc false l,none⟩
abbrev U(a:AC){c:AC}(h:a=c:=by dsimp only[lh,lg,fh,fg,bx,nc,bk,i,al,z,nt,s,k,m,l,lt,f,mi,c1,c2,st,bi,bt,ia,an,oo,ln,mc,o,og,oh]):AC:=c
attribute [simp] U
noncomputable abbrev cc(fn:Func)(bj:List Nat):AC:=ky Go.Proofs.Tryz.prog (fun d=>bj.contains d) fn.ntmps true (fn.body.getD .skip)
noncomputable abbrev RR(f:AC){c:AC}(h:f=c:=by conv=>lhs;reduce):AC:=c
noncomputable abbrev dp(f:AC->AC)(x0:AC){c:AC->AC}(h:f=c:=by conv=>lhs;reduce):AC:=c x0
noncomputable abbrev Qj(f:AC->AC->AC)(x0 x1:AC){c:AC->AC->AC}(h:f=c:=by conv=>lhs;reduce):AC:=c x0 x1
noncomputable abbrev Qk(f:AC->AC->AC->AC)(x0 x1 x2:AC){c:AC->AC->AC->AC}(h:f=c:=by conv=>lhs;reduce):AC:=c x0 x1 x2
noncomputable abbrev YK(f:AC->AC->AC->AC->AC)(x0 x1 x2 x3:AC){c:AC->AC->AC->AC->AC}(h:f=c:=by conv=>lhs;reduce):AC:=c x0 x1 x2 x3
noncomputable abbrev YL(f:AC->AC->AC->AC->AC->AC)(x0 x1 x2 x3 x4:AC){c:AC->AC->AC->AC->AC->AC}(h:f=c:=by conv=>lhs;reduce):AC:=c x0 x1 x2 x3 x4
noncomputable abbrev YM(f:AC->AC->AC->AC->AC->AC->AC)(x0 x1 x2 x3 x4 x5:AC){c:AC->AC->AC->AC->AC->AC->AC}(h:f=c:=by conv=>lhs;reduce):AC:=c x0 x1 x2 x3 x4 x5
noncomputable abbrev YN(f:AC->AC->AC->AC->AC->AC->AC->AC)(x0 x1 x2 x3 x4 x5 x6:AC){c:AC->AC->AC->AC->AC->AC->AC->AC}(h:f=c:=by conv=>lhs;reduce):AC:=c x0 x1 x2 x3 x4 x5 x6
noncomputable abbrev YO(f:AC->AC->AC->AC->AC->AC->AC->AC->AC)(x0 x1 x2 x3 x4 x5 x6 x7:AC){c:AC->AC->AC->AC->AC->AC->AC->AC->AC}(h:f=c:=by conv=>lhs;reduce):AC:=c x0 x1 x2 x3 x4 x5 x6 x7
noncomputable abbrev Ki(f:AC->AC->AC->AC->AC->AC->AC->AC->AC->AC)(x0 x1 x2 x3 x4 x5 x6 x7 x8:AC){c:AC->AC->AC->AC->AC->AC->AC->AC->AC->AC}(h:f=c:=by conv=>lhs;reduce):AC:=c x0 x1 x2 x3 x4 x5 x6 x7 x8
attribute [simp] RR dp Qj Qk YK YL YM YN YO Ki
end Go.Θ.Sh
namespace Go.Θ.Tz
open Go.Θ
open Go.Θ.Sh
open Go.Proofs.Tryz
noncomputable section
def Rf:AC:=RR (cc f19 [])
def g19:AF:=⟨156,[.tmp 0],Rf⟩
def RX:AC:=RR (cc f56 [])
def HE:AF:=⟨26,[.tmp 2,.tmp 3,.tmp 4],RX⟩
def OC:AC:=RR (AC.sub [1,1,1,1,1,0,1,0,0,1,1,0,0,1,1,0,1,0,0] (cc f25 [5,6]))
def V6:AC:=dp (fun x=>AC.put x [1,1,0,0,1,1,0,1,0,0] (AC.sub [1,1,1,1,1,0,1,0,0] (cc f25 [5,6]))) OC
def RB:AC:=dp (fun x=>AC.put x [1,1,1,1,1,0,1,0,0] (cc f25 [5,6])) V6
def Hh:AF:=⟨60,[.tmp 2,.tmp 3],RB⟩
def QT:AC:=RR (cc f110 [])
def Gq:AF:=⟨5,[.tmp 2],QT⟩
def BK:AC:=RR (AC.sub [1,0,0,1,1,0,0,1,1,1,0,1,0,0] (cc f105 []))
def VL:AC:=dp (fun x=>AC.put x [1,1,0,0,1,1,1,0,1,0,0] (AC.sub [1,0,0] (cc f105 []))) BK
def c105:AC:=dp (fun x=>AC.put x [1,0,0] (cc f105 [])) VL
def Gn:AF:=⟨70,[],c105⟩
def QR:AC:=RR (cc f108 [])
def Gp:AF:=⟨20,[.tmp 2],QR⟩
def c107:AC:=RR (cc f107 [1])
def jg:AF:=⟨83,[.tmp 2],c107⟩
def Oy:AC:=RR (AC.sub [1,1,0,1,0,0,1,1,0,0,1,1,0,1,0,0] (cc f172 []))
def VV:AC:=dp (fun x=>AC.put x [1,1,0,0,1,1,0,1,0,0] (AC.sub [1,1,0,1,0,0] (cc f172 []))) Oy
def Q5:AC:=dp (fun x=>AC.put x [1,1,0,1,0,0] (cc f172 [])) VV
def GI:AF:=⟨47,[.tmp 2],Q5⟩
def QW:AC:=RR (cc f114 [1])
def Gt:AF:=⟨42,[.tmp 2],QW⟩
def Q8:AC:=RR (cc f179 [])
def GM:AF:=⟨25,[.tmp 5],Q8⟩
def Q9:AC:=RR (cc f180 [])
def GN:AF:=⟨9,[.tmp 4],Q9⟩
def IU:AC:=RR (AC.sub [1,0,1,0,0] (cc f223 []))
def Rn:AC:=dp (fun x=>AC.put x [1,0,1,0,0] (cc f223 [])) IU
def G5:AF:=⟨19,[.tmp 4],Rn⟩
def c171:AC:=RR (cc f171 [])
def GH:AF:=⟨10,[.tmp 1],c171⟩
def BM:AC:=RR (AC.sub [1,1,0,1,0,0] (cc f43 [24]))
def RU:AC:=dp (fun x=>AC.put x [1,1,0,1,0,0] (cc f43 [24])) BM
def HC:AF:=⟨30,[.tmp 2],RU⟩
def sr:AC:=RR (AC.sub [1,1,1,1,0,1,0,0] (cc f126 [3]))
def QY:AC:=dp (fun x=>AC.put x [1,1,1,1,0,1,0,0] (cc f126 [3])) sr
def A8:AF:=⟨96,[.tmp 2],QY⟩
def V0:AC:=RR (AC.sub [1,0,1,0,0,1,1,0,0,1,1,1,1,0,1,0,0] (cc f193 []))
def V1:AC:=dp (fun x=>AC.put x [1,1,0,0,1,1,1,1,0,1,0,0] (AC.sub [1,0,1,0,0] (cc f193 []))) V0
def c193:AC:=dp (fun x=>AC.put x [1,0,1,0,0] (cc f193 [])) V1
def Ba:AF:=⟨85,[.tmp 6],c193⟩
def c233:AC:=RR (cc f233 [])
def G':AF:=⟨32,[.cell 8 true 2],c233⟩
def c232:AC:=U ((s [bx 4 2 1,o 5 (.box true 14 (.t 2)),mi 6 0] (.seq (s [f 13 0 5,l 14 1 13] (.block 0 (s [bi .eql 16 14 1,m 15 16] (k 15 (.seq (.block 1 (s [f 18 1 5,l 19 1 18,bi .lss 20 19 1,m 21 20,fg 22 21 1 5,lg 23 21 1 22,og 24 21 (bk .gtr 23 12),oo 25 21 24,m 17 25] (k 17 (s [mi 6 3] .ret) (.seq (.draw [f 27 3 5,l 28 1 27,ln 29 28,f 30 1 5,l 31 1 30,c1 32 272 31,bt .neq 33 29 32,m 26 33] [(1,5)] []) (k 26 (s [mi 6 2] .ret) .skip))))) (s [f 34 3 5,l 35 1 34,lt 36 2 4,o 37 (.zJ (.func 274) [.t 36] []),c2 38 273 35 37,m 6 38] .ret)) (.seq (s [bi .eql 40 14 2,m 39 40] (k 39 .skip (s [bi .eql 41 14 4,m 39 41] (k 39 .skip (.ops [bi .eql 42 14 8,m 39 42]))))) (k 39 (.seq (s [lt 43 2 4,f 44 2 5,l 45 1 44,c2 46 191 43 45,m 7 46] (s [m 47 7,bi .neq 48 47 0] (k 48 (s [m 49 7,m 6 49] .ret) .skip))) (.seq (s [lt 50 2 4,f 51 4 5,lt 52 4 51,c2 53 275 50 52,m 8 53] (s [m 54 8,bi .neq 55 54 0,m 56 55,fg 57 56 0 5,lg 58 56 1 57,og 59 56 (bk .neq 58 8),oo 60 56 59] (k 60 (s [m 61 8,m 6 61] .ret) .skip))) (s [lt 62 2 4,f 63 8 5,lt 64 4 63,c2 65 275 62 64,m 6 65] .ret))) (s [bi .eql 67 14 3,m 66 67] (k 66 (s [f 68 0 4,l 69 1 68,f 70 2 5,l 71 1 70,o 72 (.lookup .str (.agg [z,z]) false (.t 69) (.t 71)),al 9 [z,z],st 2 9 72] (.block 2 (s [f 74 0 9,l 75 1 74,bi .neq 76 75 1,m 73 76] (k 73 (s [mi 6 1] .ret) (s [lt 78 2 9,f 79 1 4,l 80 1 79,o 81 (.build [z,z] [(0,1,(i 1)),(1,1,(.t 80))]),o 82 (.eqs true [.int,.int] (.t 78) (.t 81)),m 77 82] (k 77 (s [mi 6 7] .ret) .skip)))))) (.seq (s [bi .eql 84 14 5,m 83 84] (k 83 .skip (.ops [bi .eql 85 14 6,m 83 85]))) (k 83 (.seq (s [f 86 3 5,l 87 1 86,ln 88 87,bi .neq 89 88 1] (k 89 (s [mi 6 2] .ret) .skip)) (.seq (.seq (.draw [lt 90 2 4,f 91 3 5,l 92 1 91,o 93 (.ia 2 (.t 92) (i 0)),lt 94 2 93,c2 95 274 90 94,m 10 95] [] []) (s [m 96 10,bi .neq 97 96 0,m 98 97,fg 99 98 0 5,lg 100 98 1 99,og 101 98 (bk .eql 100 6),oo 102 98 101] (k 102 (s [m 103 10,m 6 103] .ret) .skip))) (s [lt 104 2 4,f 105 2 5,l 106 1 105,c2 107 191 104 106,m 11 107] (s [m 108 11,bi .neq 109 108 0,m 110 109,fh 111 110 0 4,lh 112 110 1 111,fh 113 110 2 5,lh 114 110 1 113,oh 115 110 (.lookup .str (.agg [z,z]) false (.t 112) (.t 114)),oh 116 110 (.C_ false 0 1 (.t 115)),oh 117 110 (bk .neq 116 2),an 118 110 117] (k 118 (s [m 119 11,m 6 119] .ret) .skip))))) (s [bi .eql 121 14 7,m 120 121] (k 120 (s [f 122 0 4,l 123 1 122,f 124 2 5,l 125 1 124,o 126 (.lookup .str (.agg [z,z]) false (.t 123) (.t 125)),o 127 (.C_ false 0 1 (.t 126)),bi .neq 128 127 2] (k 128 (s [mi 6 1] .ret) .skip)) (s [bi .eql 130 14 9,m 129 130] (k 129 (s [m 131 0,nc 132 131,f 133 0 132,f 134 0 133,l 135 1 134,o 136 (.zJ (.func 276) [] [.t 5]),c2 137 66 135 136,m 12 137] (.seq (.block 3 (s [m 139 12,bi .lss 140 139 0,m 138 140] (k 138 (s [mi 6 1] .ret) (s [m 142 12,m 143 0,nc 144 143,f 145 1 144,l 146 1 145,bt .geq 147 142 146,m 141 147] (k 141 (s [mi 6 15] .ret) (.seq (.draw [f 149 3 5,l 150 1 149,ln 151 150,m 152 0,nc 153 152,f 154 0 153,f 155 0 154,l 156 1 155,m 157 12,ia 158 3 156 157,f 159 1 158,l 160 1 159,ln 161 160,bt .neq 162 151 161,m 148 162] [] []) (k 148 (s [mi 6 2] .ret) .skip))))))) (s [f 163 3 5,l 164 1 163,lt 165 2 4,o 166 (.zJ (.func 274) [.t 165] []),c2 167 273 164 166,m 6 167] .ret))) (.seq (s [bi .eql 169 14 10,m 168 169] (k 168 .skip (.ops [bi .eql 170 14 11,m 168 170]))) (k 168 .skip (s [mi 6 3] .ret))))))))))))))))) (s [mi 6 0] .ret))))
def dG:AF:=⟨171,[.tmp 6],c232⟩
def IV:AC:=RR (AC.sub [1,0,1,0,0] (cc f273 []))
def RE:AC:=dp (fun x=>AC.put x [1,0,1,0,0] (cc f273 [])) IV
def Hl:AF:=⟨21,[.tmp 4],RE⟩
def RF:AC:=RR (cc f274 [])
def Hm:AF:=⟨23,[.tmp 4],RF⟩
def IS:AC:=RR (AC.sub [1,0,1,0,0] (cc f177 []))
def Q6:AC:=dp (fun x=>AC.put x [1,0,1,0,0] (cc f177 [])) IS
def GK:AF:=⟨21,[.tmp 4],Q6⟩
def RG:AC:=RR (cc f275 [])
def Hn:AF:=⟨9,[.tmp 4],RG⟩
def QU:AC:=RR (cc f112 [4,5,7])
def Gr:AF:=⟨15,[.tmp 6],QU⟩
def c175:AC:=RR (cc f175 [])
def GJ:AF:=⟨27,[.tmp 5],c175⟩
def sO:AC:=RR (cc f176 [])
def qG:AF:=⟨59,[.tmp 2],sO⟩
def Ov:AC:=RR (AC.sub [1,1,0,1,0,0] (cc f117 []))
def c117:AC:=dp (fun x=>AC.put x [1,1,0,1,0,0] (cc f117 [])) Ov
def Gu:AF:=⟨19,[.tmp 2],c117⟩
def RP:AC:=RR (cc f298 [])
def Hw:AF:=⟨11,[.tmp 4],RP⟩
def IW:AC:=RR (AC.sub [1,0,1,0,0] (cc f66 []))
def RZ:AC:=dp (fun x=>AC.put x [1,0,1,0,0] (cc f66 [])) IW
def HG:AF:=⟨19,[.tmp 4],RZ⟩
def RH:AC:=RR (cc f276 [])
def Ho:AF:=⟨9,[.tmp 3],RH⟩
def Rh:AC:=U ((s [bx 2 2 0,mi 4 0] (.seq (.block 0 (s [m 6 1,c1 7 113 6,o 8 (nt 7),m 5 8] (k 5 (s [mi 4 4] .ret) (s [f 10 0 2,l 11 1 10,m 12 1,o 13 (.lookup .str (.agg [z,z]) false (.t 11) (.t 12)),o 14 (.build [z,z] []),o 15 (.eqs true [.int,.int] (.t 13) (.t 14)),m 9 15] (k 9 (s [mi 4 5] .ret) .skip))))) (s [mi 4 0] .ret))))
def GV:AF:=⟨16,[.tmp 4],Rh⟩
def QV:AC:=RR (cc f113 [])
def Gs:AF:=⟨27,[.tmp 2],QV⟩
def RY:AC:=RR (cc f65 [])
def HF:AF:=⟨9,[.tmp 4],RY⟩
def IX:AC:=RR (AC.sub [1,0,1,0,0] (cc f85 []))
def c85:AC:=dp (fun x=>AC.put x [1,0,1,0,0] (cc f85 [])) IX
def De:AF:=⟨19,[.tmp 4],c85⟩
def BL:AC:=RR (AC.sub [1,0,1,0,0] (cc f178 []))
def Q7:AC:=dp (fun x=>AC.put x [1,0,1,0,0] (cc f178 [])) BL
def GL:AF:=⟨16,[.tmp 2],Q7⟩
def FL:AC:=RR (cc f272 [])
def Bd:AF:=⟨9,[.tmp 2],FL⟩
def Oz:AC:=RR (AC.sub [1,1,0,1,0,0,1,1,0,0,1,1,1,0,0] (cc f192 []))
def VZ:AC:=dp (fun x=>AC.put x [1,1,0,0,1,1,1,0,0] (AC.sub [1,1,0,1,0,0] (cc f192 []))) Oz
def Ri:AC:=dp (fun x=>AC.put x [1,1,0,1,0,0] (cc f192 [])) VZ
def GX:AF:=⟨35,[.tmp 4],Ri⟩
def Q0:AC:=RR (cc f135 [3])
def GB:AF:=⟨10,[.tmp 2],Q0⟩
def QZ:AC:=RR (cc f134 [1])
def GA:AF:=⟨4,[.tmp 2],QZ⟩
def Rk:AC:=RR (cc f204 [2,3])
def G0:AF:=⟨8,[],Rk⟩
def c208:AC:=RR (cc f208 [3])
def G4:AF:=⟨9,[.tmp 4],c208⟩
def Rz:AC:=RR (cc f247 [])
def Hf:AF:=⟨9,[.tmp 4],Rz⟩
def OE:AC:=RR (AC.sub [1,0,1,0,0] (cc f283 []))
def RJ:AC:=dp (fun x=>AC.put x [1,0,1,0,0] (cc f283 [])) OE
def Hq:AF:=⟨19,[.tmp 4],RJ⟩
def RA:AC:=RR (cc f248 [])
def Hg:AF:=⟨8,[.tmp 3],RA⟩
def Rl:AC:=RR (cc f205 [])
def G1:AF:=⟨14,[.tmp 4],Rl⟩
def c206:AC:=RR (cc f206 [3])
def G2:AF:=⟨9,[.tmp 4],c206⟩
def Rx:AC:=RR (cc f245 [])
def Hd:AF:=⟨9,[.tmp 4],Rx⟩
def OD:AC:=RR (AC.sub [1,0,1,0,0] (cc f282 []))
def RI:AC:=dp (fun x=>AC.put x [1,0,1,0,0] (cc f282 [])) OD
def Hp:AF:=⟨19,[.tmp 4],RI⟩
def Ry:AC:=RR (cc f246 [])
def He:AF:=⟨8,[.tmp 3],Ry⟩
def Rm:AC:=RR (cc f207 [])
def G3:AF:=⟨7,[.tmp 3],Rm⟩
def Re:AC:=RR (cc f189 [])
def GS:AF:=⟨9,[.tmp 4],Re⟩
def Rg:AC:=RR (cc f190 [])
def GU:AF:=⟨9,[.tmp 3],Rg⟩
def RT:AC:=RR (cc f39 [])
def HB:AF:=⟨19,[.cell 2 true 1,.tmp 3,.tmp 4],RT⟩
def VT:AC:=RR (AC.sub [1,1,1,1,1,0,0,0] (cc f124 [22]))
def c124:AC:=dp (fun x=>AC.put x [1,1,1,1,1,0,0,0] (cc f124 [22])) VT
def Gy:AF:=⟨76,[.cell 2 true 1,.tmp 3,.tmp 4,.tmp 5],c124⟩
def KJ:AC:=RR (cc f188 [1,4])
def GR:AF:=⟨24,[.cell 2 true 3,.tmp 3],KJ⟩
def V4:AC:=RR (AC.sub [1,1,1,1,1,0,0,0] (cc f231 []))
def Rq:AC:=dp (fun x=>AC.put x [1,1,1,1,1,0,0,0] (cc f231 [])) V4
def G_:AF:=⟨35,[.tmp 2,.tmp 3],Rq⟩
def c226:AC:=RR (cc f226 [3])
def G7:AF:=⟨7,[],c226⟩
def KN:AC:=RR (cc f265 [])
def Hi:AF:=⟨53,[.tmp 4],KN⟩
def RL:AC:=RR (cc f291 [])
def Hr:AF:=⟨33,[.cell 2 true 4],RL⟩
def RC:AC:=RR (cc f266 [])
def Hj:AF:=⟨9,[.tmp 3],RC⟩
def RD:AC:=RR (cc f271 [1,5])
def Hk:AF:=⟨141,[.cell 2 true 14,.cell 3 true 3],RD⟩
def V8:AC:=RR (AC.sub [1,1,1,0,0,1,0,1,1,1,0,0] (cc f297 [2,5]))
def RO:AC:=dp (fun x=>AC.put x [1,1,1,0,0,1,0,1,1,1,0,0] (cc f297 [2,5])) V8
def Hv:AF:=⟨105,[.cell 4 true 14],RO⟩
def V3:AC:=RR (AC.sub [1,1,1,0,0,0] (cc f228 []))
def c228:AC:=dp (fun x=>AC.put x [1,1,1,0,0,0] (cc f228 [])) V3
def Ma:AF:=⟨32,[],c228⟩
def KO:AC:=RR (cc f268 [])
def Dc:AF:=⟨18,[.tmp 4],KO⟩
def KR:AC:=RR (cc f310 [])
def Me:AF:=⟨9,[],KR⟩
def FN:AC:=RR (cc f309 [])
def wZ:AF:=⟨34,[.cell 2 true 2],FN⟩
def V7:AC:=RR (AC.sub [1,1,0,0,0] (cc f296 []))
def RN:AC:=dp (fun x=>AC.put x [1,1,0,0,0] (cc f296 [])) V7
def Hu:AF:=⟨26,[.cell 2 true 4],RN⟩
def V9:AC:=RR (AC.sub [1,1,0,0,0] (cc f308 []))
def RQ:AC:=dp (fun x=>AC.put x [1,1,0,0,0] (cc f308 [])) V9
def Hx:AF:=⟨17,[.cell 2 true 4],RQ⟩
def FO:AC:=RR (cc f315 [])
def w7:AF:=⟨29,[.cell 2 true 4],FO⟩
def c227:AC:=RR (cc f227 [])
def G8:AF:=⟨5,[.tmp 2],c227⟩
def FK:AC:=RR (cc f267 [])
def Bc:AF:=⟨23,[.tmp 2],FK⟩
def Rp:AC:=RR (cc f230 [])
def G9:AF:=⟨12,[.tmp 2],Rp⟩
def KP:AC:=RR (cc f270 [])
def Dd:AF:=⟨7,[.tmp 2],KP⟩
def RM:AC:=RR (cc f295 [])
def Ht:AF:=⟨16,[.tmp 2,.cell 3 true 4],RM⟩
def KQ:AC:=RR (cc f294 [])
def Hs:AF:=⟨17,[.tmp 2],KQ⟩
def c229:AC:=RR (cc f229 [])
def Mb:AF:=⟨19,[],c229⟩
def Rd:AC:=RR (cc f187 [])
def GQ:AF:=⟨5,[.tmp 2],Rd⟩
def Ro:AC:=RR (cc f225 [2,5])
def G6:AF:=⟨13,[.tmp 4],Ro⟩
def c130:AC:=RR (cc f130 [1])
def Gz:AF:=⟨4,[.tmp 2],c130⟩
def V2:AC:=RR (AC.sub [1,0,0] (cc f201 []))
def c201:AC:=dp (fun x=>AC.put x [1,0,0] (cc f201 [])) V2
def Db:AF:=⟨32,[],c201⟩
def zE:AC:=RR (AC.sub [1,0,0,0] (cc f202 []))
def Rj:AC:=dp (fun x=>AC.put x [1,0,0,0] (cc f202 [])) zE
def GY:AF:=⟨35,[.tmp 4],Rj⟩
def c203:AC:=RR (cc f203 [2,3,6])
def GZ:AF:=⟨79,[.cell 4 true 4],c203⟩
def Z4:AC:=RR (cc f244 [])
def Ty:AF:=⟨2,[.cell 0 true 256],Z4⟩
def OB:AC:=RR (AC.sub [1,1,0,1,0,0] (cc f243 []))
def Rv:AC:=dp (fun x=>AC.put x [1,1,0,1,0,0] (cc f243 [])) OB
def Hc:AF:=⟨15,[.cell 2 true 256],Rv⟩
def Rt:AC:=RR (cc f242 [])
def Hb:AF:=⟨11,[.tmp 4],Rt⟩
def Z1:AC:=RR (cc f241 [])
def Tw:AF:=⟨2,[.cell 0 true 256],Z1⟩
def Z0:AC:=RR (cc f240 [])
def Tv:AF:=⟨2,[.cell 0 true 256],Z0⟩
def V5:AC:=RR (AC.sub [1,0,0,0] (cc f239 []))
def Rr:AC:=dp (fun x=>AC.put x [1,0,0,0] (cc f239 [])) V5
def Ha:AF:=⟨22,[.tmp 5],Rr⟩
def Z6:AC:=RR (cc f32 [])
def TB:AF:=⟨24,[.tmp 6,.tmp 7],Z6⟩
def afp:AC:=RR (AC.sub [1,1,1,0,1,0,0] (cc f118 []))
def ZU:AC:=dp (fun x=>AC.put x [1,1,1,0,1,0,0] (cc f118 [])) afp
def Tm:AF:=⟨87,[.tmp 6,.tmp 7],ZU⟩
def Z5:AC:=RR (cc f26 [])
def TA:AF:=⟨12,[.tmp 2,.tmp 3],Z5⟩
def afA:AC:=RR (AC.sub [1,1,1,0,1,0,0] (cc f72 []))
def c72:AC:=dp (fun x=>AC.put x [1,1,1,0,1,0,0] (cc f72 [])) afA
def TD:AF:=⟨45,[.cell 4 true 14,.tmp 5],c72⟩
end
noncomputable section
def afq:AC:=RR (AC.sub [1,1,1,0,1,0,0,1,1,0,0,1,1,0,1,0,0,1,1,0,0,1,1,0,1,0,0] (cc f137 []))
def afr:AC:=dp (fun x=>AC.put x [1,1,0,0,1,1,0,1,0,0] (AC.sub [1,1,1,0,1,0,0,1,1,0,0,1,1,0,1,0,0] (cc f137 []))) afq
def afs:AC:=dp (fun x=>AC.put x [1,1,0,0,1,1,0,1,0,0] (AC.sub [1,1,1,0,1,0,0] (cc f137 []))) afr
def ZW:AC:=dp (fun x=>AC.put x [1,1,1,0,1,0,0] (cc f137 [])) afs
def To:AF:=⟨96,[.tmp 2],ZW⟩
def afx:AC:=RR (AC.sub [1,1,1,0,1,0,0] (cc f209 []))
def ZZ:AC:=dp (fun x=>AC.put x [1,1,1,0,1,0,0] (cc f209 [])) afx
def Tu:AF:=⟨30,[.cell 2 true 4],ZZ⟩
def ZV:AC:=RR (cc f136 [])
def Tn:AF:=⟨71,[.cell 6 true 14,.tmp 7],ZV⟩
def afz:AC:=RR (AC.sub [1,1,1,0,1,0,0] (cc f70 []))
def c70:AC:=dp (fun x=>AC.put x [1,1,1,0,1,0,0] (cc f70 [])) afz
def TC:AF:=⟨27,[.tmp 2,.tmp 3],c70⟩
def Z8:AC:=RR (cc f86 [])
def TF:AF:=⟨31,[.tmp 4],Z8⟩
def afv:AC:=RR (AC.sub [1,1,0,1,0,0] (cc f142 []))
def ZY:AC:=dp (fun x=>AC.put x [1,1,0,1,0,0] (cc f142 [])) afv
def Ts:AF:=⟨32,[.tmp 6],ZY⟩
def KU:AC:=RR (cc f83 [])
def HI:AF:=⟨82,[.cell 6 true 4],KU⟩
def KE:AC:=RR (cc f121 [])
def A6:AF:=⟨13,[.tmp 4],KE⟩
def c182:AC:=RR (cc f182 [])
def GO:AF:=⟨104,[.tmp 2],c182⟩
def Q4:AC:=RR (cc f153 [])
def GG:AF:=⟨9,[.tmp 4],Q4⟩
def c119:AC:=RR (cc f119 [])
def Gv:AF:=⟨15,[.tmp 6],c119⟩
def FP:AC:=RR (cc f36 [10])
def w8:AF:=⟨11,[.tmp 2],FP⟩
def KG:AC:=RR (cc f123 [])
def A7:AF:=⟨8,[.tmp 2],KG⟩
def OF:AC:=RR (AC.sub [1,1,0,1,0,0,1,1,0,0,1,1,0,1,0,0] (cc f35 [9]))
def OG:AC:=dp (fun x=>AC.put x [1,1,0,1,0,0] (AC.sub [1,1,0,1,0,0,1,1,0,0] (cc f35 [9]))) OF
def V_:AC:=dp (fun x=>AC.put x [1,1,0,0] (AC.sub [1,1,0,1,0,0] (cc f35 [9]))) OG
def KS:AC:=dp (fun x=>AC.put x [1,1,0,1,0,0] (cc f35 [9])) V_
def Hy:AF:=⟨64,[.cell 2 true 1],KS⟩
def Ow:AC:=RR (AC.sub [1,1,1,0,1,0,0,1,1,0,0,1,1,1,1,1,0,1,0,1,0,1,1,0,0] (cc f122 [9,330,1048904,335,1048909]))
def Ox:AC:=RR (AC.sub [1,1,1,0,1,0,0,1,1,0,0,1,1,1,1,1,0,1,0,1,1,1,1,1,1,1,1,1,1,1,1,1,1,1,1,1,0,1,1,1,1,0,0] (cc f122 [9,330,1048904,335,1048909]))
def IF:AC:=dp (fun x=>AC.put x [1,1,0,0] (AC.sub [1,1,1,0,1,0,0,1,1,0,0,1,1,1,1,1,0,1,0,1,0] (cc f122 [9,330,1048904,335,1048909]))) Ow
def IG:AC:=RR (AC.sub [1,1,1,0,1,0,0,1,1,0,0,1,1,1,1,1,0,1,0,1,1,1,0] (cc f122 [9,330,1048904,335,1048909]))
def Em:AC:=RR (AC.sub [1,1,1,0,1,0,0,1,1,0,0,1,1,1,1,1,0,1,0,1,1,1,1,1,0] (cc f122 [9,330,1048904,335,1048909]))
def II:AC:=RR (AC.sub [1,1,1,0,1,0,0,1,1,0,0,1,1,1,1,1,0,1,0,1,1,1,1,1,1,1,0] (cc f122 [9,330,1048904,335,1048909]))
def IJ:AC:=RR (AC.sub [1,1,1,0,1,0,0,1,1,0,0,1,1,1,1,1,0,1,0,1,1,1,1,1,1,1,1,1,0] (cc f122 [9,330,1048904,335,1048909]))
def IK:AC:=RR (AC.sub [1,1,1,0,1,0,0,1,1,0,0,1,1,1,1,1,0,1,0,1,1,1,1,1,1,1,1,1,1,1,0] (cc f122 [9,330,1048904,335,1048909]))
def Eo:AC:=RR (AC.sub [1,1,1,0,1,0,0,1,1,0,0,1,1,1,1,1,0,1,0,1,1,1,1,1,1,1,1,1,1,1,1,1,0] (cc f122 [9,330,1048904,335,1048909]))
def IL:AC:=RR (AC.sub [1,1,1,0,1,0,0,1,1,0,0,1,1,1,1,1,0,1,0,1,1,1,1,1,1,1,1,1,1,1,1,1,1,1,0] (cc f122 [9,330,1048904,335,1048909]))
def IM:AC:=dp (fun x=>AC.put x [1,1,1,1,0,0] (AC.sub [1,1,1,0,1,0,0,1,1,0,0,1,1,1,1,1,0,1,0,1,1,1,1,1,1,1,1,1,1,1,1,1,1,1,1,1,0] (cc f122 [9,330,1048904,335,1048909]))) Ox
def VO:AC:=RR (AC.sub [1,1,1,0,1,0,0,1,1,0,0,1,1,1,1,1,1,0,1,0,1,1,1,0] (cc f122 [9,330,1048904,335,1048909]))
def VN:AC:=RR (AC.sub [1,1,1,0,1,0,0,1,1,0,0,1,1,1,1,1,1,0,1,0,1,0] (cc f122 [9,330,1048904,335,1048909]))
def VP:AC:=RR (AC.sub [1,1,1,0,1,0,0,1,1,0,0,1,1,1,1,1,1,1,0,1,0,1,0] (cc f122 [9,330,1048904,335,1048909]))
def VQ:AC:=RR (AC.sub [1,1,1,0,1,0,0,1,1,0,0,1,1,1,1,1,1,1,0,1,0,1,1,1,0] (cc f122 [9,330,1048904,335,1048909]))
def VS:AC:=RR (AC.sub [1,1,1,0,1,0,0,1,1,0,0,1,1,1,1,1,1,1,0,1,0,1,1,1,1,1,0] (cc f122 [9,330,1048904,335,1048909]))
def Er:AC:=Ki (fun x y z w v a b c d=>AC.put d [1,0,1,1,1,1,1,1,1,1,1,1,1,1,1,1,1,1,1,0] (AC.put c [1,0,1,1,1,1,1,1,1,1,1,1,1,1,1,1,1,0] (AC.put b [1,0,1,1,1,1,1,1,1,1,1,1,1,1,1,0] (AC.put a [1,0,1,1,1,1,1,1,1,1,1,1,1,0] (AC.put v [1,0,1,1,1,1,1,1,1,1,1,0] (AC.put w [1,0,1,1,1,1,1,1,1,0] (AC.put z [1,0,1,1,1,1,1,0] (AC.put y [1,0,1,1,1,0] (AC.put x [1,0,1,0] (AC.sub [1,1,1,0,1,0,0,1,1,0,0,1,1,1,1,1,0] (cc f122 [9,330,1048904,335,1048909]))))))))))) IF IG Em II IJ IK Eo IL IM
def uG:AC:=Qj (fun x y=>AC.put y [1,0,1,1,1,0] (AC.put x [1,0,1,0] (AC.sub [1,1,1,0,1,0,0,1,1,0,0,1,1,1,1,1,1,0] (cc f122 [9,330,1048904,335,1048909])))) VN VO
def ra:AC:=Qk (fun x y z=>AC.put z [1,0,1,1,1,1,1,0] (AC.put y [1,0,1,1,1,0] (AC.put x [1,0,1,0] (AC.sub [1,1,1,0,1,0,0,1,1,0,0,1,1,1,1,1,1,1,0] (cc f122 [9,330,1048904,335,1048909]))))) VP VQ VS
def IP:AC:=RR (AC.sub [1,1,1,0,1,0,0,1,1,0,0,0] (cc f122 [9,330,1048904,335,1048909]))
def tB:AC:=RR (AC.sub [1,1,1,0,1,0,0,1,1,0,0,1,1,0] (cc f122 [9,330,1048904,335,1048909]))
def zD:AC:=RR (AC.sub [1,1,1,0,1,0,0,1,1,0,0,1,1,1,1,1,1,1,1] (cc f122 [9,330,1048904,335,1048909]))
def IQ:AC:=RR (AC.sub [1,1,1,0,1,0,0,1,1,0,0,1,1,1,0] (cc f122 [9,330,1048904,335,1048909]))
def IE:AC:=RR (AC.sub [1,1,1,0,1,0,0,1,1,0,0,1,1,1,1,0] (cc f122 [9,330,1048904,335,1048909]))
def IN:AC:=RR (AC.sub [1,1,1,0,1,0,0,1,1,0,0,1,0] (cc f122 [9,330,1048904,335,1048909]))
def VM:AC:=Ki (fun x y z w v a b c d=>AC.put d [1,1,0,0,1,1,1,1,1,1,1,1] (AC.put c [1,1,0,0,1,1,1,1,1,1,1,0] (AC.put b [1,1,0,0,1,1,1,1,1,1,0] (AC.put a [1,1,0,0,1,1,1,1,1,0] (AC.put v [1,1,0,0,1,1,1,1,0] (AC.put w [1,1,0,0,1,1,1,0] (AC.put z [1,1,0,0,1,1,0] (AC.put y [1,1,0,0,1,0] (AC.put x [1,1,0,0,0] (AC.sub [1,1,1,0,1,0,0] (cc f122 [9,330,1048904,335,1048909]))))))))))) IP IN tB IQ IE Er uG ra zD
def KF:AC:=dp (fun x=>AC.put x [1,1,1,0,1,0,0] (cc f122 [9,330,1048904,335,1048909])) VM
def Gx:AF:=⟨360,[.tmp 6],KF⟩
def FM:AC:=RR (cc f29 [])
def pU:AF:=⟨8,[.tmp 2],FM⟩
def VY:AC:=RR (AC.sub [1,1,1,0,1,0,0] (cc f186 []))
def KI:AC:=dp (fun x=>AC.put x [1,1,1,0,1,0,0] (cc f186 [])) VY
def wY:AF:=⟨42,[.tmp 4],KI⟩
def OA:AC:=RR (AC.sub [1,0,1,0,0] (cc f224 []))
def KL:AC:=dp (fun x=>AC.put x [1,0,1,0,0] (cc f224 [])) OA
def Bb:AF:=⟨19,[.tmp 4],KL⟩
def Q_:AC:=RR (cc f185 [])
def A_:AF:=⟨8,[.tmp 3],Q_⟩
def VX:AC:=RR (AC.sub [1,1,0,1,0,0] (cc f184 []))
def KH:AC:=dp (fun x=>AC.put x [1,1,0,1,0,0] (cc f184 [])) VX
def GP:AF:=⟨37,[.cell 4 true 2],KH⟩
def QX:AC:=RR (cc f120 [])
def Gw:AF:=⟨33,[.tmp 4],QX⟩
def c183:AC:=RR (cc f183 [])
def A9:AF:=⟨24,[.tmp 2],c183⟩
def afu:AC:=RR (AC.sub [1,1,0,1,0,0] (cc f140 []))
def ZX:AC:=dp (fun x=>AC.put x [1,1,0,1,0,0] (cc f140 [])) afu
def Tq:AF:=⟨32,[.tmp 6],ZX⟩
def aft:AC:=RR (AC.sub [1,1,0,1,0,0] (cc f138 []))
def c138:AC:=dp (fun x=>AC.put x [1,1,0,1,0,0] (cc f138 [])) aft
def Tp:AF:=⟨32,[.tmp 6],c138⟩
def VU:AC:=U ((s [bt .lss 14 13 12] (.seq (k 14 .skip (.exit 0)) (.seq (.block 1 (s [m 15 13,m 5 15] (.seq (.draw [m 16 0,m 17 5,ia 18 2 16 17,lt 19 2 18,m 20 1,m 21 5,ia 22 2 20 21,lt 23 2 22,o 24 (.eqs true [.str,.int] (.t 19) (.t 23))] [] []) (k 24 (s [mc 4 (.bool false)] .ret) .skip)))) (.ops [bi .add 25 13 1,m 13 25])))))
def c145:AC:=dp (fun x=>AC.put x [1,1,0,1,0,0] (cc f145 [])) VU
def GF:AF:=⟨26,[.tmp 4],c145⟩
def afw:AC:=RR (AC.sub [1,1,0,1,0,0] (cc f143 []))
def c143:AC:=dp (fun x=>AC.put x [1,1,0,1,0,0] (cc f143 [])) afw
def Tt:AF:=⟨32,[.tmp 6],c143⟩
end
noncomputable section
def R8:AC:=RR (cc f74 [])
def HH:AF:=⟨10,[.tmp 4],R8⟩
def Q3:AC:=RR (cc f144 [])
def GD:AF:=⟨24,[.tmp 4],Q3⟩
def Z7:AC:=RR (cc f73 [])
def TE:AF:=⟨8,[.tmp 4],Z7⟩
def c139:AC:=RR (cc f139 [])
def GC:AF:=⟨59,[.tmp 4],c139⟩
def c141:AC:=RR (cc f141 [])
def Tr:AF:=⟨17,[.tmp 4],c141⟩
def Wb:AC:=RR (AC.sub [1,1,1,0,1,0,0] (cc f38 []))
def KT:AC:=dp (fun x=>AC.put x [1,1,1,0,1,0,0] (cc f38 [])) Wb
def HA:AF:=⟨67,[.tmp 4,.tmp 5],KT⟩
def c75:AC:=RR (cc f75 [])
def w9:AF:=⟨17,[.tmp 2],c75⟩
def V':AC:=RR (AC.sub [1,1,0,1,0,0,1,0,0,1,1,0,1,0,0] (cc f37 []))
def Wa:AC:=dp (fun x=>AC.put x [1,0,0,1,1,0,1,0,0] (AC.sub [1,1,0,1,0,0] (cc f37 []))) V'
def c37:AC:=dp (fun x=>AC.put x [1,1,0,1,0,0] (cc f37 [])) Wa
def Hz:AF:=⟨57,[.tmp 2],c37⟩
def ID:AC:=RR (AC.sub [1,1,1,1,1,1,1,1,1,1,0,1,0,0] (cc f11 []))
def QS:AC:=dp (fun x=>AC.put x [1,1,1,1,1,1,1,1,1,1,0,1,0,0] (cc f11 [])) ID
def g11:AF:=⟨148,[.tmp 4],QS⟩
def RW:AC:=RR (cc f55 [2,3,4,5,6])
def HD:AF:=⟨24,[.cell 2 false 1,.cell 3 false 1,.cell 4 false 1],RW⟩
end
noncomputable section
end
noncomputable section
def FT:AC:=RR (cc f29 [7])
def pV:AF:=⟨8,[.tmp 2],FT⟩
def alts(n:Nat):Option AF:=cond (gj n 29) (some pV) none
def aP(n k:Nat)(a b:Option AF):Option AF:=cond (qv n k) a b
def aN(n k:Nat)(g:AF):Option AF:=cond (gj n k) (some g) none
def fs(n:Nat):Option AF:=aP n 183 (aP n 117 (aP n 66 (aP n 36 (aP n 26 (aP n 19 (aN n 11 g11) (aP n 25 (aN n 19 g19) (aN n 25 Hh))) (aP n 32 (aP n 29 (aN n 26 TA) (aN n 29 pU)) (aP n 35 (aN n 32 TB) (aN n 35 Hy)))) (aP n 43 (aP n 38 (aP n 37 (aN n 36 w8) (aN n 37 Hz)) (aP n 39 (aN n 38 HA) (aN n 39 HB))) (aP n 56 (aP n 55 (aN n 43 HC) (aN n 55 HD)) (aP n 65 (aN n 56 HE) (aN n 65 HF))))) (aP n 86 (aP n 74 (aP n 72 (aP n 70 (aN n 66 HG) (aN n 70 TC)) (aP n 73 (aN n 72 TD) (aN n 73 TE))) (aP n 83 (aP n 75 (aN n 74 HH) (aN n 75 w9)) (aP n 85 (aN n 83 HI) (aN n 85 De)))) (aP n 110 (aP n 107 (aP n 105 (aN n 86 TF) (aN n 105 Gn)) (aP n 108 (aN n 107 jg) (aN n 108 Gp))) (aP n 113 (aP n 112 (aN n 110 Gq) (aN n 112 Gr)) (aP n 114 (aN n 113 Gs) (aN n 114 Gt)))))) (aP n 140 (aP n 126 (aP n 121 (aP n 119 (aP n 118 (aN n 117 Gu) (aN n 118 Tm)) (aP n 120 (aN n 119 Gv) (aN n 120 Gw))) (aP n 123 (aP n 122 (aN n 121 A6) (aN n 122 Gx)) (aP n 124 (aN n 123 A7) (aN n 124 Gy)))) (aP n 136 (aP n 134 (aP n 130 (aN n 126 A8) (aN n 130 Gz)) (aP n 135 (aN n 134 GA) (aN n 135 GB))) (aP n 138 (aP n 137 (aN n 136 Tn) (aN n 137 To)) (aP n 139 (aN n 138 Tp) (aN n 139 GC))))) (aP n 172 (aP n 144 (aP n 142 (aP n 141 (aN n 140 Tq) (aN n 141 Tr)) (aP n 143 (aN n 142 Ts) (aN n 143 Tt))) (aP n 153 (aP n 145 (aN n 144 GD) (aN n 145 GF)) (aP n 171 (aN n 153 GG) (aN n 171 GH)))) (aP n 178 (aP n 176 (aP n 175 (aN n 172 GI) (aN n 175 GJ)) (aP n 177 (aN n 176 qG) (aN n 177 GK))) (aP n 180 (aP n 179 (aN n 178 GL) (aN n 179 GM)) (aP n 182 (aN n 180 GN) (aN n 182 GO))))))) (aP n 240 (aP n 206 (aP n 191 (aP n 187 (aP n 185 (aP n 184 (aN n 183 A9) (aN n 184 GP)) (aP n 186 (aN n 185 A_) (aN n 186 wY))) (aP n 189 (aP n 188 (aN n 187 GQ) (aN n 188 GR)) (aP n 190 (aN n 189 GS) (aN n 190 GU)))) (aP n 202 (aP n 193 (aP n 192 (aN n 191 GV) (aN n 192 GX)) (aP n 201 (aN n 193 Ba) (aN n 201 Db))) (aP n 204 (aP n 203 (aN n 202 GY) (aN n 203 GZ)) (aP n 205 (aN n 204 G0) (aN n 205 G1))))) (aP n 227 (aP n 223 (aP n 208 (aP n 207 (aN n 206 G2) (aN n 207 G3)) (aP n 209 (aN n 208 G4) (aN n 209 Tu))) (aP n 225 (aP n 224 (aN n 223 G5) (aN n 224 Bb)) (aP n 226 (aN n 225 G6) (aN n 226 G7)))) (aP n 231 (aP n 229 (aP n 228 (aN n 227 G8) (aN n 228 Ma)) (aP n 230 (aN n 229 Mb) (aN n 230 G9))) (aP n 233 (aP n 232 (aN n 231 G_) (aN n 232 dG)) (aP n 239 (aN n 233 G') (aN n 239 Ha)))))) (aP n 273 (aP n 248 (aP n 244 (aP n 242 (aP n 241 (aN n 240 Tv) (aN n 241 Tw)) (aP n 243 (aN n 242 Hb) (aN n 243 Hc))) (aP n 246 (aP n 245 (aN n 244 Ty) (aN n 245 Hd)) (aP n 247 (aN n 246 He) (aN n 247 Hf)))) (aP n 268 (aP n 266 (aP n 265 (aN n 248 Hg) (aN n 265 Hi)) (aP n 267 (aN n 266 Hj) (aN n 267 Bc))) (aP n 271 (aP n 270 (aN n 268 Dc) (aN n 270 Dd)) (aP n 272 (aN n 271 Hk) (aN n 272 Bd))))) (aP n 295 (aP n 282 (aP n 275 (aP n 274 (aN n 273 Hl) (aN n 274 Hm)) (aP n 276 (aN n 275 Hn) (aN n 276 Ho))) (aP n 291 (aP n 283 (aN n 282 Hp) (aN n 283 Hq)) (aP n 294 (aN n 291 Hr) (aN n 294 Hs)))) (aP n 308 (aP n 297 (aP n 296 (aN n 295 Ht) (aN n 296 Hu)) (aP n 298 (aN n 297 Hv) (aN n 298 Hw))) (aP n 310 (aP n 309 (aN n 308 Hx) (aN n 309 wZ)) (aP n 315 (aN n 310 Me) (aN n 315 w7)))))))
def bf(n:Nat):Bool:=cond (qv n 229) (cond (qv n 185) (cond (qv n 36) (gj n 29) (gj n 36)) (cond (qv n 201) (gj n 185) (cond (qv n 228) (gj n 201) (gj n 228)))) (cond (qv n 239) (cond (qv n 233) (gj n 229) (gj n 233)) (cond (qv n 294) (gj n 239) (cond (qv n 310) (gj n 294) (gj n 310))))
def gl(u n:Nat):AV:=cond (gj n 0) (.ref [(.list .any [(.str [120]),(.str [121]),(.str [122]),(.str [104]),(.str [115]),(.str [115,100]),(.str [116]),(.str [116,100]),(.str [99,120]),(.str [99,122]),(.str [115,119,97,112]),(.str [99,99,120])])]) (cond (gj n 1) (.ref [(.list .any [(.str [112,114,111,99]),(.str [116,97,107,101]),(.str [100,114,111,112]),(.str [98,111,114,114,111,119]),(.str [109,101,97,115,117,114,101]),(.str [114,101,115,101,116]),(.str [105,102]),(.str [101,108,115,101]),(.str [102,111,114]),(.str [117,110,100,111]),(.str [119,105,116,104,105,110]),(.str [97,112,112,108,121])])]) (cond (gj n 8) (.ref [.iface u .cY]) .cY))
def E_:AV:= .agg (rl [(97,false),(26,true),(133,false)])
def E':AV:= .agg (rl [(48,false),(10,true),(198,false)])
def Fa:AV:= .agg (rl [(40,false),(6,true),(12,false),(2,true),(1,false),(1,true),(29,false),(1,true),(1,false),(1,true),(29,false),(1,true),(1,false),(1,true),(130,false)])
def Pl(n:Nat):Option Prim:=cond (gj n 109) (some xU) (cond (gj n 269) (some (uQ 350)) (cond (gj n 106) (some (xX 150 5)) (cond (gj n 111) (some (xW 150 5)) (cond (gj n 174) (some xV) (cond (gj n 238) (some xT) (cond (gj n 277) (some xS) none))))))
def C0(u:Nat):iL:= {gl:=gl u,fs:=fs,gQ:=Pl,bf:=bf,alts:=alts}
def gQ(n:Nat):Option Prim:=cond (gj n 240) (some (uR E_)) (cond (gj n 241) (some (uR E')) (cond (gj n 244) (some (uR Fa)) (Pl n)))
def C(u:Nat):iL:= {gl:=gl u,fs:=fs,gQ:=gQ,bf:=bf,alts:=alts}
noncomputable abbrev kf(u n:Nat):=ab (C u) (.fn (.func n) [] [])
end
end Go.Θ.Tz
