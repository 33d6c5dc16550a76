import Derived.Test.YtiigojkfojnedaaGreatDoorTLa
import Derived.Test.YtiigojkfojnedaaGreatDoorProg
set_option linter.all false
set_option maxRecDepth 100000
set_option maxHeartbeats 8000000
open Nat renaming beq->gm,blt->qf
namespace Go.Δ
def AC.sub:List Nat->AC->AC
  |0::p,.seq a _=>a.sub p
  |_::p,.seq _ b=>b.sub p
  |0::p,.cond _ a _=>a.sub p
  |_::p,.cond _ _ b=>b.sub p
  |_::p,.block _ a=>a.sub p
  |_::p,.loop a=>a.sub p
  |_,a=>a
def AC.put(x:AC):List Nat->AC->AC
  |0::p,.seq a b=> .seq (AC.put x p a) b
  |_::p,.seq a b=> .seq a (AC.put x p b)
  |0::p,.cond c a b=> .cond c (AC.put x p a) b
  |_::p,.cond c a b=> .cond c a (AC.put x p b)
  |_::p,.block i a=> .block i (AC.put x p a)
  |_::p,.loop a=> .loop (AC.put x p a)
  |_,_=>x
end Go.Δ
namespace Go.Δ.Sh
open Go.Δ
def m(d a:Nat):aV:=⟨some d,.mv (.t a),none⟩
def l(d s a:Nat):aV:=⟨some d,.ld false s (.t a),none⟩
def lt(d s a:Nat):aV:=⟨some d,.ld true s (.t a),none⟩
def f(d n a:Nat):aV:=⟨some d,.fa n (.t a),none⟩
def mi(d:Nat)(v:Int):aV:=⟨some d,.mv (.c (.int .i64 v)),none⟩
def c1(d k a:Nat):aV:=⟨some d,.call (.c (.fn (.func k) [] [])) [.t a],none⟩
def c2(d k a b:Nat):aV:=⟨some d,.call (.c (.fn (.func k) [] [])) [.t a,.t b],none⟩
def st(s a b:Nat):aV:=⟨none,.st s (.t a) (.t b),none⟩
def bi(x:BinOp)(d a:Nat)(v:Int):aV:=⟨some d,.bin x (.t a) (.c (.int .i64 v)),none⟩
def bt(x:BinOp)(d a b:Nat):aV:=⟨some d,.bin x (.t a) (.t b),none⟩
def ia(d n a b:Nat):aV:=⟨some d,.ia n (.t a) (.t b),none⟩
def an(d a b:Nat):aV:=⟨some d,.pick (.t a) (.t b) (.c (.bool false)),none⟩
def oo(d a b:Nat):aV:=⟨some d,.pick (.t a) (.c (.bool true)) (.t b),none⟩
def ln(d a:Nat):aV:=⟨some d,.len (.t a),none⟩
def o(d:Nat)(x:AO):aV:=⟨some d,x,none⟩
def og(d g:Nat)(x:AO):aV:=⟨some d,x,some (g,false)⟩
def oh(d g:Nat)(x:AO):aV:=⟨some d,x,some (g,true)⟩
def s(l:List aV)(a:AC):AC:= .seq (.ops l) a
def k(a:Nat)(x y:AC):AC:= .cond (.t a) x y
def rl(l:List (Nat×Bool)):List AV:=l.flatMap fun p=>List.replicate p.1 (.bool p.2)
def z:AV:= .int .i64 0
def i(v:Int):bw:= .c (.int .i64 v)
def bk(x:BinOp)(a:Nat)(v:Int):AO:= .bin x (.t a) (.c (.int .i64 v))
def nt(a:Nat):AO:= .un .not (.t a)
def lh(d g s a:Nat):aV:=⟨some d,.ld false s (.t a),some (g,true)⟩
def lg(d g s a:Nat):aV:=⟨some d,.ld false s (.t a),some (g,false)⟩
def fh(d g s a:Nat):aV:=⟨some d,.fa s (.t a),some (g,true)⟩
def fg(d g s a:Nat):aV:=⟨some d,.fa s (.t a),some (g,false)⟩
def bx(d s a:Nat):aV:=⟨some d,.box false s (.t a),none⟩
def nc(d a:Nat):aV:=⟨some d,.IX (.t a),none⟩
def al(d:Nat)(l:List AV):aV:=⟨some d,.alloc false l,none⟩
abbrev U(a:AC){c:AC}(h:a=c:=by dsimp only[lh,lg,fh,fg,bx,nc,bk,i,al,z,nt,s,k,m,l,lt,f,mi,c1,c2,st,bi,bt,ia,an,oo,ln,o,og,oh]):AC:=c
attribute [simp] U
noncomputable abbrev cc(fn:Func)(bf:List Nat):AC:=ko Go.Proofs.Tryz.prog (fun d=>bf.contains d) fn.ntmps true (fn.body.getD .skip)
noncomputable abbrev RR(f:AC){c:AC}(h:f=c:=by conv=>lhs;reduce):AC:=c
noncomputable abbrev dF(f:AC->AC)(x0:AC){c:AC->AC}(h:f=c:=by conv=>lhs;reduce):AC:=c x0
noncomputable abbrev J9(f:AC->AC->AC)(x0 x1:AC){c:AC->AC->AC}(h:f=c:=by conv=>lhs;reduce):AC:=c x0 x1
noncomputable abbrev Qj(f:AC->AC->AC->AC)(x0 x1 x2:AC){c:AC->AC->AC->AC}(h:f=c:=by conv=>lhs;reduce):AC:=c x0 x1 x2
noncomputable abbrev Ys(f:AC->AC->AC->AC->AC)(x0 x1 x2 x3:AC){c:AC->AC->AC->AC->AC}(h:f=c:=by conv=>lhs;reduce):AC:=c x0 x1 x2 x3
noncomputable abbrev Yt(f:AC->AC->AC->AC->AC->AC)(x0 x1 x2 x3 x4:AC){c:AC->AC->AC->AC->AC->AC}(h:f=c:=by conv=>lhs;reduce):AC:=c x0 x1 x2 x3 x4
noncomputable abbrev Yu(f:AC->AC->AC->AC->AC->AC->AC)(x0 x1 x2 x3 x4 x5:AC){c:AC->AC->AC->AC->AC->AC->AC}(h:f=c:=by conv=>lhs;reduce):AC:=c x0 x1 x2 x3 x4 x5
noncomputable abbrev Yv(f:AC->AC->AC->AC->AC->AC->AC->AC)(x0 x1 x2 x3 x4 x5 x6:AC){c:AC->AC->AC->AC->AC->AC->AC->AC}(h:f=c:=by conv=>lhs;reduce):AC:=c x0 x1 x2 x3 x4 x5 x6
noncomputable abbrev Yw(f:AC->AC->AC->AC->AC->AC->AC->AC->AC)(x0 x1 x2 x3 x4 x5 x6 x7:AC){c:AC->AC->AC->AC->AC->AC->AC->AC->AC}(h:f=c:=by conv=>lhs;reduce):AC:=c x0 x1 x2 x3 x4 x5 x6 x7
noncomputable abbrev J_(f:AC->AC->AC->AC->AC->AC->AC->AC->AC->AC)(x0 x1 x2 x3 x4 x5 x6 x7 x8:AC){c:AC->AC->AC->AC->AC->AC->AC->AC->AC->AC}(h:f=c:=by conv=>lhs;reduce):AC:=c x0 x1 x2 x3 x4 x5 x6 x7 x8
attribute [simp] RR dF J9 Qj Ys Yt Yu Yv Yw J_
end Go.Δ.Sh
namespace Go.Δ.Tz
open Go.Δ
open Go.Δ.Sh
open Go.Proofs.Tryz
noncomputable section
def Q8:AC:=RR (cc f19 [])
def g19:AF:=⟨156,[.tmp 0],Q8⟩
def RO:AC:=RR (cc f56 [])
def Hh:AF:=⟨26,[.tmp 2,.tmp 3,.tmp 4],RO⟩
def Ox:AC:=RR (AC.sub [1,1,1,1,1,0,1,0,0,1,1,0,0,1,1,0,1,0,0] (cc f25 [5,6]))
def VX:AC:=dF (fun x=>AC.put x [1,1,0,0,1,1,0,1,0,0] (AC.sub [1,1,1,1,1,0,1,0,0] (cc f25 [5,6]))) Ox
def Rw:AC:=dF (fun x=>AC.put x [1,1,1,1,1,0,1,0,0] (cc f25 [5,6])) VX
def GX:AF:=⟨60,[.tmp 2,.tmp 3],Rw⟩
def QP:AC:=RR (cc f110 [])
def F7:AF:=⟨5,[.tmp 2],QP⟩
def Bm:AC:=RR (AC.sub [1,0,0,1,1,0,0,1,1,1,0,1,0,0] (cc f105 []))
def VC:AC:=dF (fun x=>AC.put x [1,1,0,0,1,1,1,0,1,0,0] (AC.sub [1,0,0] (cc f105 []))) Bm
def c105:AC:=dF (fun x=>AC.put x [1,0,0] (cc f105 [])) VC
def F5:AF:=⟨70,[],c105⟩
def QO:AC:=RR (cc f108 [])
def F6:AF:=⟨20,[.tmp 2],QO⟩
def c107:AC:=RR (cc f107 [1])
def jd:AF:=⟨83,[.tmp 2],c107⟩
def Ot:AC:=RR (AC.sub [1,1,0,1,0,0,1,1,0,0,1,1,0,1,0,0] (cc f172 []))
def VK:AC:=dF (fun x=>AC.put x [1,1,0,0,1,1,0,1,0,0] (AC.sub [1,1,0,1,0,0] (cc f172 []))) Ot
def QY:AC:=dF (fun x=>AC.put x [1,1,0,1,0,0] (cc f172 [])) VK
def Gk:AF:=⟨47,[.tmp 2],QY⟩
def QS:AC:=RR (cc f114 [1])
def F_:AF:=⟨42,[.tmp 2],QS⟩
def Q3:AC:=RR (cc f179 [])
def Gp:AF:=⟨25,[.tmp 5],Q3⟩
def Q4:AC:=RR (cc f180 [])
def Gq:AF:=⟨9,[.tmp 4],Q4⟩
def IA:AC:=RR (AC.sub [1,0,1,0,0] (cc f223 []))
def Ri:AC:=dF (fun x=>AC.put x [1,0,1,0,0] (cc f223 [])) IA
def GH:AF:=⟨19,[.tmp 4],Ri⟩
def c171:AC:=RR (cc f171 [])
def Gj:AF:=⟨10,[.tmp 1],c171⟩
def Bo:AC:=RR (AC.sub [1,1,0,1,0,0] (cc f43 [24]))
def RN:AC:=dF (fun x=>AC.put x [1,1,0,1,0,0] (cc f43 [24])) Bo
def Hg:AF:=⟨30,[.tmp 2],RN⟩
def rX:AC:=RR (AC.sub [1,1,1,1,0,1,0,0] (cc f126 [3]))
def QU:AC:=dF (fun x=>AC.put x [1,1,1,1,0,1,0,0] (cc f126 [3])) rX
def AI:AF:=⟨96,[.tmp 2],QU⟩
def VO:AC:=RR (AC.sub [1,0,1,0,0,1,1,0,0,1,1,1,1,0,1,0,0] (cc f193 []))
def VP:AC:=dF (fun x=>AC.put x [1,1,0,0,1,1,1,1,0,1,0,0] (AC.sub [1,0,1,0,0] (cc f193 []))) VO
def c193:AC:=dF (fun x=>AC.put x [1,0,1,0,0] (cc f193 [])) VP
def AL:AF:=⟨85,[.tmp 6],c193⟩
def c233:AC:=RR (cc f233 [])
def GN:AF:=⟨32,[.cell 8 true 2],c233⟩
def c232:AC:=U ((s [bx 4 2 1,o 5 (.box true 14 (.t 2)),mi 6 0] (.seq (s [f 13 0 5,l 14 1 13] (.block 0 (s [bi .eql 16 14 1,m 15 16] (k 15 (.seq (.block 1 (s [f 18 1 5,l 19 1 18,bi .lss 20 19 1,m 21 20,fg 22 21 1 5,lg 23 21 1 22,og 24 21 (bk .gtr 23 12),oo 25 21 24,m 17 25] (k 17 (s [mi 6 3] .ret) (.seq (.draw [f 27 3 5,l 28 1 27,ln 29 28,f 30 1 5,l 31 1 30,c1 32 272 31,bt .neq 33 29 32,m 26 33] [(1,5)] []) (k 26 (s [mi 6 2] .ret) .skip))))) (s [f 34 3 5,l 35 1 34,lt 36 2 4,o 37 (.zs (.func 274) [.t 36] []),c2 38 273 35 37,m 6 38] .ret)) (.seq (s [bi .eql 40 14 2,m 39 40] (k 39 .skip (s [bi .eql 41 14 4,m 39 41] (k 39 .skip (.ops [bi .eql 42 14 8,m 39 42]))))) (k 39 (.seq (s [lt 43 2 4,f 44 2 5,l 45 1 44,c2 46 191 43 45,m 7 46] (s [m 47 7,bi .neq 48 47 0] (k 48 (s [m 49 7,m 6 49] .ret) .skip))) (.seq (s [lt 50 2 4,f 51 4 5,lt 52 4 51,c2 53 275 50 52,m 8 53] (s [m 54 8,bi .neq 55 54 0,m 56 55,fg 57 56 0 5,lg 58 56 1 57,og 59 56 (bk .neq 58 8),oo 60 56 59] (k 60 (s [m 61 8,m 6 61] .ret) .skip))) (s [lt 62 2 4,f 63 8 5,lt 64 4 63,c2 65 275 62 64,m 6 65] .ret))) (s [bi .eql 67 14 3,m 66 67] (k 66 (s [f 68 0 4,l 69 1 68,f 70 2 5,l 71 1 70,o 72 (.lookup .str (.agg [z,z]) false (.t 69) (.t 71)),al 9 [z,z],st 2 9 72] (.block 2 (s [f 74 0 9,l 75 1 74,bi .neq 76 75 1,m 73 76] (k 73 (s [mi 6 1] .ret) (s [lt 78 2 9,f 79 1 4,l 80 1 79,o 81 (.build [z,z] [(0,1,(i 1)),(1,1,(.t 80))]),o 82 (.eqs true [.int,.int] (.t 78) (.t 81)),m 77 82] (k 77 (s [mi 6 7] .ret) .skip)))))) (.seq (s [bi .eql 84 14 5,m 83 84] (k 83 .skip (.ops [bi .eql 85 14 6,m 83 85]))) (k 83 (.seq (s [f 86 3 5,l 87 1 86,ln 88 87,bi .neq 89 88 1] (k 89 (s [mi 6 2] .ret) .skip)) (.seq (.seq (.draw [lt 90 2 4,f 91 3 5,l 92 1 91,o 93 (.ia 2 (.t 92) (i 0)),lt 94 2 93,c2 95 274 90 94,m 10 95] [] []) (s [m 96 10,bi .neq 97 96 0,m 98 97,fg 99 98 0 5,lg 100 98 1 99,og 101 98 (bk .eql 100 6),oo 102 98 101] (k 102 (s [m 103 10,m 6 103] .ret) .skip))) (s [lt 104 2 4,f 105 2 5,l 106 1 105,c2 107 191 104 106,m 11 107] (s [m 108 11,bi .neq 109 108 0,m 110 109,fh 111 110 0 4,lh 112 110 1 111,fh 113 110 2 5,lh 114 110 1 113,oh 115 110 (.lookup .str (.agg [z,z]) false (.t 112) (.t 114)),oh 116 110 (.CM false 0 1 (.t 115)),oh 117 110 (bk .neq 116 2),an 118 110 117] (k 118 (s [m 119 11,m 6 119] .ret) .skip))))) (s [bi .eql 121 14 7,m 120 121] (k 120 (s [f 122 0 4,l 123 1 122,f 124 2 5,l 125 1 124,o 126 (.lookup .str (.agg [z,z]) false (.t 123) (.t 125)),o 127 (.CM false 0 1 (.t 126)),bi .neq 128 127 2] (k 128 (s [mi 6 1] .ret) .skip)) (s [bi .eql 130 14 9,m 129 130] (k 129 (s [m 131 0,nc 132 131,f 133 0 132,f 134 0 133,l 135 1 134,o 136 (.zs (.func 276) [] [.t 5]),c2 137 66 135 136,m 12 137] (.seq (.block 3 (s [m 139 12,bi .lss 140 139 0,m 138 140] (k 138 (s [mi 6 1] .ret) (s [m 142 12,m 143 0,nc 144 143,f 145 1 144,l 146 1 145,bt .geq 147 142 146,m 141 147] (k 141 (s [mi 6 15] .ret) (.seq (.draw [f 149 3 5,l 150 1 149,ln 151 150,m 152 0,nc 153 152,f 154 0 153,f 155 0 154,l 156 1 155,m 157 12,ia 158 3 156 157,f 159 1 158,l 160 1 159,ln 161 160,bt .neq 162 151 161,m 148 162] [] []) (k 148 (s [mi 6 2] .ret) .skip))))))) (s [f 163 3 5,l 164 1 163,lt 165 2 4,o 166 (.zs (.func 274) [.t 165] []),c2 167 273 164 166,m 6 167] .ret))) (.seq (s [bi .eql 169 14 10,m 168 169] (k 168 .skip (.ops [bi .eql 170 14 11,m 168 170]))) (k 168 .skip (s [mi 6 3] .ret))))))))))))))))) (s [mi 6 0] .ret))))
def dC:AF:=⟨171,[.tmp 6],c232⟩
def IB:AC:=RR (AC.sub [1,0,1,0,0] (cc f273 []))
def Rz:AC:=dF (fun x=>AC.put x [1,0,1,0,0] (cc f273 [])) IB
def G1:AF:=⟨21,[.tmp 4],Rz⟩
def RA:AC:=RR (cc f274 [])
def G2:AF:=⟨23,[.tmp 4],RA⟩
def Iz:AC:=RR (AC.sub [1,0,1,0,0] (cc f177 []))
def QZ:AC:=dF (fun x=>AC.put x [1,0,1,0,0] (cc f177 [])) Iz
def Gm:AF:=⟨21,[.tmp 4],QZ⟩
def RB:AC:=RR (cc f275 [])
def G3:AF:=⟨9,[.tmp 4],RB⟩
def QQ:AC:=RR (cc f112 [4,5,7])
def F8:AF:=⟨15,[.tmp 6],QQ⟩
def c175:AC:=RR (cc f175 [])
def Gl:AF:=⟨27,[.tmp 5],c175⟩
def sy:AC:=RR (cc f176 [])
def qo:AF:=⟨59,[.tmp 2],sy⟩
def On:AC:=RR (AC.sub [1,1,0,1,0,0] (cc f117 []))
def c117:AC:=dF (fun x=>AC.put x [1,1,0,1,0,0] (cc f117 [])) On
def F':AF:=⟨19,[.tmp 2],c117⟩
def RJ:AC:=RR (cc f298 [])
def Ha:AF:=⟨11,[.tmp 4],RJ⟩
def IC:AC:=RR (AC.sub [1,0,1,0,0] (cc f66 []))
def RQ:AC:=dF (fun x=>AC.put x [1,0,1,0,0] (cc f66 [])) IC
def Hj:AF:=⟨19,[.tmp 4],RQ⟩
def RC:AC:=RR (cc f276 [])
def G4:AF:=⟨9,[.tmp 3],RC⟩
def Q_:AC:=U ((s [bx 2 2 0,mi 4 0] (.seq (.block 0 (s [m 6 1,c1 7 113 6,o 8 (nt 7),m 5 8] (k 5 (s [mi 4 4] .ret) (s [f 10 0 2,l 11 1 10,m 12 1,o 13 (.lookup .str (.agg [z,z]) false (.t 11) (.t 12)),o 14 (.build [z,z] []),o 15 (.eqs true [.int,.int] (.t 13) (.t 14)),m 9 15] (k 9 (s [mi 4 5] .ret) .skip))))) (s [mi 4 0] .ret))))
def Gx:AF:=⟨16,[.tmp 4],Q_⟩
def QR:AC:=RR (cc f113 [])
def F9:AF:=⟨27,[.tmp 2],QR⟩
def RP:AC:=RR (cc f65 [])
def Hi:AF:=⟨9,[.tmp 4],RP⟩
def ID:AC:=RR (AC.sub [1,0,1,0,0] (cc f85 []))
def c85:AC:=dF (fun x=>AC.put x [1,0,1,0,0] (cc f85 [])) ID
def CS:AF:=⟨19,[.tmp 4],c85⟩
def Bn:AC:=RR (AC.sub [1,0,1,0,0] (cc f178 []))
def Q0:AC:=dF (fun x=>AC.put x [1,0,1,0,0] (cc f178 [])) Bn
def Gn:AF:=⟨16,[.tmp 2],Q0⟩
def Fq:AC:=RR (cc f272 [])
def AP:AF:=⟨9,[.tmp 2],Fq⟩
def Ou:AC:=RR (AC.sub [1,1,0,1,0,0,1,1,0,0,1,1,1,0,0] (cc f192 []))
def VN:AC:=dF (fun x=>AC.put x [1,1,0,0,1,1,1,0,0] (AC.sub [1,1,0,1,0,0] (cc f192 []))) Ou
def Rd:AC:=dF (fun x=>AC.put x [1,1,0,1,0,0] (cc f192 [])) VN
def Gy:AF:=⟨35,[.tmp 4],Rd⟩
def QW:AC:=RR (cc f135 [3])
def Gg:AF:=⟨10,[.tmp 2],QW⟩
def QV:AC:=RR (cc f134 [1])
def Gf:AF:=⟨4,[.tmp 2],QV⟩
def Rf:AC:=RR (cc f204 [2,3])
def GB:AF:=⟨8,[],Rf⟩
def c208:AC:=RR (cc f208 [3])
def GG:AF:=⟨9,[.tmp 4],c208⟩
def Ru:AC:=RR (cc f247 [])
def GU:AF:=⟨9,[.tmp 4],Ru⟩
def Oz:AC:=RR (AC.sub [1,0,1,0,0] (cc f283 []))
def RE:AC:=dF (fun x=>AC.put x [1,0,1,0,0] (cc f283 [])) Oz
def G6:AF:=⟨19,[.tmp 4],RE⟩
def Rv:AC:=RR (cc f248 [])
def GV:AF:=⟨8,[.tmp 3],Rv⟩
def Rg:AC:=RR (cc f205 [])
def GC:AF:=⟨14,[.tmp 4],Rg⟩
def c206:AC:=RR (cc f206 [3])
def GD:AF:=⟨9,[.tmp 4],c206⟩
def Rr:AC:=RR (cc f245 [])
def GR:AF:=⟨9,[.tmp 4],Rr⟩
def Oy:AC:=RR (AC.sub [1,0,1,0,0] (cc f282 []))
def RD:AC:=dF (fun x=>AC.put x [1,0,1,0,0] (cc f282 [])) Oy
def G5:AF:=⟨19,[.tmp 4],RD⟩
def Rt:AC:=RR (cc f246 [])
def GS:AF:=⟨8,[.tmp 3],Rt⟩
def Rh:AC:=RR (cc f207 [])
def GF:AF:=⟨7,[.tmp 3],Rh⟩
def Q7:AC:=RR (cc f189 [])
def Gv:AF:=⟨9,[.tmp 4],Q7⟩
def Q9:AC:=RR (cc f190 [])
def Gw:AF:=⟨9,[.tmp 3],Q9⟩
def RM:AC:=RR (cc f39 [])
def Hf:AF:=⟨19,[.cell 2 true 1,.tmp 3,.tmp 4],RM⟩
def VJ:AC:=RR (AC.sub [1,1,1,1,1,0,0,0] (cc f124 [22]))
def c124:AC:=dF (fun x=>AC.put x [1,1,1,1,1,0,0,0] (cc f124 [22])) VJ
def Gd:AF:=⟨76,[.cell 2 true 1,.tmp 3,.tmp 4,.tmp 5],c124⟩
def Kv:AC:=RR (cc f188 [1,4])
def Gu:AF:=⟨24,[.cell 2 true 3,.tmp 3],Kv⟩
def VU:AC:=RR (AC.sub [1,1,1,1,1,0,0,0] (cc f231 []))
def Rl:AC:=dF (fun x=>AC.put x [1,1,1,1,1,0,0,0] (cc f231 [])) VU
def GM:AF:=⟨35,[.tmp 2,.tmp 3],Rl⟩
def c226:AC:=RR (cc f226 [3])
def GJ:AF:=⟨7,[],c226⟩
def Kx:AC:=RR (cc f265 [])
def GY:AF:=⟨53,[.tmp 4],Kx⟩
def RF:AC:=RR (cc f291 [])
def G7:AF:=⟨33,[.cell 2 true 4],RF⟩
def Rx:AC:=RR (cc f266 [])
def GZ:AF:=⟨9,[.tmp 3],Rx⟩
def Ry:AC:=RR (cc f271 [1,5])
def G0:AF:=⟨141,[.cell 2 true 14,.cell 3 true 3],Ry⟩
def VZ:AC:=RR (AC.sub [1,1,1,0,0,1,0,1,1,1,0,0] (cc f297 [2,5]))
def RI:AC:=dF (fun x=>AC.put x [1,1,1,0,0,1,0,1,1,1,0,0] (cc f297 [2,5])) VZ
def G':AF:=⟨105,[.cell 4 true 14],RI⟩
def VT:AC:=RR (AC.sub [1,1,1,0,0,0] (cc f228 []))
def c228:AC:=dF (fun x=>AC.put x [1,1,1,0,0,0] (cc f228 [])) VT
def L0:AF:=⟨32,[],c228⟩
def Ky:AC:=RR (cc f268 [])
def CQ:AF:=⟨18,[.tmp 4],Ky⟩
def KB:AC:=RR (cc f310 [])
def L6:AF:=⟨9,[],KB⟩
def Ft:AC:=RR (cc f309 [])
def wQ:AF:=⟨34,[.cell 2 true 2],Ft⟩
def VY:AC:=RR (AC.sub [1,1,0,0,0] (cc f296 []))
def RH:AC:=dF (fun x=>AC.put x [1,1,0,0,0] (cc f296 [])) VY
def G_:AF:=⟨26,[.cell 2 true 4],RH⟩
def V0:AC:=RR (AC.sub [1,1,0,0,0] (cc f308 []))
def RL:AC:=dF (fun x=>AC.put x [1,1,0,0,0] (cc f308 [])) V0
def Hb:AF:=⟨17,[.cell 2 true 4],RL⟩
def Fu:AC:=RR (cc f315 [])
def wR:AF:=⟨29,[.cell 2 true 4],Fu⟩
def c227:AC:=RR (cc f227 [])
def GK:AF:=⟨5,[.tmp 2],c227⟩
def Fp:AC:=RR (cc f267 [])
def AN:AF:=⟨23,[.tmp 2],Fp⟩
def Rk:AC:=RR (cc f230 [])
def GL:AF:=⟨12,[.tmp 2],Rk⟩
def Kz:AC:=RR (cc f270 [])
def CR:AF:=⟨7,[.tmp 2],Kz⟩
def RG:AC:=RR (cc f295 [])
def G9:AF:=⟨16,[.tmp 2,.cell 3 true 4],RG⟩
def KA:AC:=RR (cc f294 [])
def G8:AF:=⟨17,[.tmp 2],KA⟩
def c229:AC:=RR (cc f229 [])
def L4:AF:=⟨19,[],c229⟩
def Q6:AC:=RR (cc f187 [])
def Gt:AF:=⟨5,[.tmp 2],Q6⟩
def Rj:AC:=RR (cc f225 [2,5])
def GI:AF:=⟨13,[.tmp 4],Rj⟩
def c130:AC:=RR (cc f130 [1])
def Ge:AF:=⟨4,[.tmp 2],c130⟩
def VS:AC:=RR (AC.sub [1,0,0] (cc f201 []))
def c201:AC:=dF (fun x=>AC.put x [1,0,0] (cc f201 [])) VS
def CP:AF:=⟨32,[],c201⟩
def zo:AC:=RR (AC.sub [1,0,0,0] (cc f202 []))
def Re:AC:=dF (fun x=>AC.put x [1,0,0,0] (cc f202 [])) zo
def Gz:AF:=⟨35,[.tmp 4],Re⟩
def c203:AC:=RR (cc f203 [2,3,6])
def GA:AF:=⟨79,[.cell 4 true 4],c203⟩
def ZK:AC:=RR (cc f244 [])
def Ti:AF:=⟨2,[.cell 0 true 256],ZK⟩
def Ow:AC:=RR (AC.sub [1,1,0,1,0,0] (cc f243 []))
def Rp:AC:=dF (fun x=>AC.put x [1,1,0,1,0,0] (cc f243 [])) Ow
def GQ:AF:=⟨15,[.cell 2 true 256],Rp⟩
def Rn:AC:=RR (cc f242 [])
def GP:AF:=⟨11,[.tmp 4],Rn⟩
def ZH:AC:=RR (cc f241 [])
def Th:AF:=⟨2,[.cell 0 true 256],ZH⟩
def ZG:AC:=RR (cc f240 [])
def Tg:AF:=⟨2,[.cell 0 true 256],ZG⟩
def VV:AC:=RR (AC.sub [1,0,0,0] (cc f239 []))
def Rm:AC:=dF (fun x=>AC.put x [1,0,0,0] (cc f239 [])) VV
def GO:AF:=⟨22,[.tmp 5],Rm⟩
def ZM:AC:=RR (cc f32 [])
def Tk:AF:=⟨24,[.tmp 6,.tmp 7],ZM⟩
def ae8:AC:=RR (AC.sub [1,1,1,0,1,0,0] (cc f118 []))
def ZC:AC:=dF (fun x=>AC.put x [1,1,1,0,1,0,0] (cc f118 [])) ae8
def Tc:AF:=⟨87,[.tmp 6,.tmp 7],ZC⟩
def ZL:AC:=RR (cc f26 [])
def Tj:AF:=⟨12,[.tmp 2,.tmp 3],ZL⟩
def afd:AC:=RR (AC.sub [1,1,1,0,1,0,0] (cc f72 []))
def c72:AC:=dF (fun x=>AC.put x [1,1,1,0,1,0,0] (cc f72 [])) afd
def Tm:AF:=⟨45,[.cell 4 true 14,.tmp 5],c72⟩
end
noncomputable section
def ae9:AC:=RR (AC.sub [1,1,1,0,1,0,0,1,1,0,0,1,1,0,1,0,0,1,1,0,0,1,1,0,1,0,0] (cc f137 []))
def ae_:AC:=dF (fun x=>AC.put x [1,1,0,0,1,1,0,1,0,0] (AC.sub [1,1,1,0,1,0,0,1,1,0,0,1,1,0,1,0,0] (cc f137 []))) ae9
def ae':AC:=dF (fun x=>AC.put x [1,1,0,0,1,1,0,1,0,0] (AC.sub [1,1,1,0,1,0,0] (cc f137 []))) ae_
def ZE:AC:=dF (fun x=>AC.put x [1,1,1,0,1,0,0] (cc f137 [])) ae'
def Te:AF:=⟨96,[.tmp 2],ZE⟩
def afa:AC:=RR (AC.sub [1,1,1,0,1,0,0] (cc f209 []))
def ZF:AC:=dF (fun x=>AC.put x [1,1,1,0,1,0,0] (cc f209 [])) afa
def Tf:AF:=⟨30,[.cell 2 true 4],ZF⟩
def ZD:AC:=RR (cc f136 [])
def Td:AF:=⟨71,[.cell 6 true 14,.tmp 7],ZD⟩
def afc:AC:=RR (AC.sub [1,1,1,0,1,0,0] (cc f70 []))
def c70:AC:=dF (fun x=>AC.put x [1,1,1,0,1,0,0] (cc f70 [])) afc
def Tl:AF:=⟨27,[.tmp 2,.tmp 3],c70⟩
def KF:AC:=RR (cc f83 [])
def Hk:AF:=⟨82,[.cell 6 true 4],KF⟩
def Kp:AC:=RR (cc f121 [])
def AG:AF:=⟨13,[.tmp 4],Kp⟩
def c182:AC:=RR (cc f182 [])
def Gr:AF:=⟨104,[.tmp 2],c182⟩
def QX:AC:=RR (cc f153 [])
def Gi:AF:=⟨9,[.tmp 4],QX⟩
def c119:AC:=RR (cc f119 [])
def Ga:AF:=⟨15,[.tmp 6],c119⟩
def Fv:AC:=RR (cc f36 [10])
def wS:AF:=⟨11,[.tmp 2],Fv⟩
def Kr:AC:=RR (cc f123 [])
def AH:AF:=⟨8,[.tmp 2],Kr⟩
def OA:AC:=RR (AC.sub [1,1,0,1,0,0,1,1,0,0,1,1,0,1,0,0] (cc f35 [9]))
def OB:AC:=dF (fun x=>AC.put x [1,1,0,1,0,0] (AC.sub [1,1,0,1,0,0,1,1,0,0] (cc f35 [9]))) OA
def V1:AC:=dF (fun x=>AC.put x [1,1,0,0] (AC.sub [1,1,0,1,0,0] (cc f35 [9]))) OB
def KD:AC:=dF (fun x=>AC.put x [1,1,0,1,0,0] (cc f35 [9])) V1
def Hc:AF:=⟨64,[.cell 2 true 1],KD⟩
def Oo:AC:=RR (AC.sub [1,1,1,0,1,0,0,1,1,0,0,1,1,1,1,1,0,1,0,1,0,1,1,0,0] (cc f122 [9,330,1048904,335,1048909]))
def Oq:AC:=RR (AC.sub [1,1,1,0,1,0,0,1,1,0,0,1,1,1,1,1,0,1,0,1,1,1,1,1,1,1,1,1,1,1,1,1,1,1,1,1,0,1,1,1,1,0,0] (cc f122 [9,330,1048904,335,1048909]))
def Ip:AC:=dF (fun x=>AC.put x [1,1,0,0] (AC.sub [1,1,1,0,1,0,0,1,1,0,0,1,1,1,1,1,0,1,0,1,0] (cc f122 [9,330,1048904,335,1048909]))) Oo
def Iq:AC:=RR (AC.sub [1,1,1,0,1,0,0,1,1,0,0,1,1,1,1,1,0,1,0,1,1,1,0] (cc f122 [9,330,1048904,335,1048909]))
def DZ:AC:=RR (AC.sub [1,1,1,0,1,0,0,1,1,0,0,1,1,1,1,1,0,1,0,1,1,1,1,1,0] (cc f122 [9,330,1048904,335,1048909]))
def Ir:AC:=RR (AC.sub [1,1,1,0,1,0,0,1,1,0,0,1,1,1,1,1,0,1,0,1,1,1,1,1,1,1,0] (cc f122 [9,330,1048904,335,1048909]))
def Is:AC:=RR (AC.sub [1,1,1,0,1,0,0,1,1,0,0,1,1,1,1,1,0,1,0,1,1,1,1,1,1,1,1,1,0] (cc f122 [9,330,1048904,335,1048909]))
def It:AC:=RR (AC.sub [1,1,1,0,1,0,0,1,1,0,0,1,1,1,1,1,0,1,0,1,1,1,1,1,1,1,1,1,1,1,0] (cc f122 [9,330,1048904,335,1048909]))
def D0:AC:=RR (AC.sub [1,1,1,0,1,0,0,1,1,0,0,1,1,1,1,1,0,1,0,1,1,1,1,1,1,1,1,1,1,1,1,1,0] (cc f122 [9,330,1048904,335,1048909]))
def Iu:AC:=RR (AC.sub [1,1,1,0,1,0,0,1,1,0,0,1,1,1,1,1,0,1,0,1,1,1,1,1,1,1,1,1,1,1,1,1,1,1,0] (cc f122 [9,330,1048904,335,1048909]))
def Iv:AC:=dF (fun x=>AC.put x [1,1,1,1,0,0] (AC.sub [1,1,1,0,1,0,0,1,1,0,0,1,1,1,1,1,0,1,0,1,1,1,1,1,1,1,1,1,1,1,1,1,1,1,1,1,0] (cc f122 [9,330,1048904,335,1048909]))) Oq
def VF:AC:=RR (AC.sub [1,1,1,0,1,0,0,1,1,0,0,1,1,1,1,1,1,0,1,0,1,1,1,0] (cc f122 [9,330,1048904,335,1048909]))
def VE:AC:=RR (AC.sub [1,1,1,0,1,0,0,1,1,0,0,1,1,1,1,1,1,0,1,0,1,0] (cc f122 [9,330,1048904,335,1048909]))
def VG:AC:=RR (AC.sub [1,1,1,0,1,0,0,1,1,0,0,1,1,1,1,1,1,1,0,1,0,1,0] (cc f122 [9,330,1048904,335,1048909]))
def VH:AC:=RR (AC.sub [1,1,1,0,1,0,0,1,1,0,0,1,1,1,1,1,1,1,0,1,0,1,1,1,0] (cc f122 [9,330,1048904,335,1048909]))
def VI:AC:=RR (AC.sub [1,1,1,0,1,0,0,1,1,0,0,1,1,1,1,1,1,1,0,1,0,1,1,1,1,1,0] (cc f122 [9,330,1048904,335,1048909]))
def D1:AC:=J_ (fun x y z w v a b c d=>AC.put d [1,0,1,1,1,1,1,1,1,1,1,1,1,1,1,1,1,1,1,0] (AC.put c [1,0,1,1,1,1,1,1,1,1,1,1,1,1,1,1,1,0] (AC.put b [1,0,1,1,1,1,1,1,1,1,1,1,1,1,1,0] (AC.put a [1,0,1,1,1,1,1,1,1,1,1,1,1,0] (AC.put v [1,0,1,1,1,1,1,1,1,1,1,0] (AC.put w [1,0,1,1,1,1,1,1,1,0] (AC.put z [1,0,1,1,1,1,1,0] (AC.put y [1,0,1,1,1,0] (AC.put x [1,0,1,0] (AC.sub [1,1,1,0,1,0,0,1,1,0,0,1,1,1,1,1,0] (cc f122 [9,330,1048904,335,1048909]))))))))))) Ip Iq DZ Ir Is It D0 Iu Iv
def uA:AC:=J9 (fun x y=>AC.put y [1,0,1,1,1,0] (AC.put x [1,0,1,0] (AC.sub [1,1,1,0,1,0,0,1,1,0,0,1,1,1,1,1,1,0] (cc f122 [9,330,1048904,335,1048909])))) VE VF
def qM:AC:=Qj (fun x y z=>AC.put z [1,0,1,1,1,1,1,0] (AC.put y [1,0,1,1,1,0] (AC.put x [1,0,1,0] (AC.sub [1,1,1,0,1,0,0,1,1,0,0,1,1,1,1,1,1,1,0] (cc f122 [9,330,1048904,335,1048909]))))) VG VH VI
def Ix:AC:=RR (AC.sub [1,1,1,0,1,0,0,1,1,0,0,0] (cc f122 [9,330,1048904,335,1048909]))
def tc:AC:=RR (AC.sub [1,1,1,0,1,0,0,1,1,0,0,1,1,0] (cc f122 [9,330,1048904,335,1048909]))
def zn:AC:=RR (AC.sub [1,1,1,0,1,0,0,1,1,0,0,1,1,1,1,1,1,1,1] (cc f122 [9,330,1048904,335,1048909]))
def Iy:AC:=RR (AC.sub [1,1,1,0,1,0,0,1,1,0,0,1,1,1,0] (cc f122 [9,330,1048904,335,1048909]))
def Io:AC:=RR (AC.sub [1,1,1,0,1,0,0,1,1,0,0,1,1,1,1,0] (cc f122 [9,330,1048904,335,1048909]))
def Iw:AC:=RR (AC.sub [1,1,1,0,1,0,0,1,1,0,0,1,0] (cc f122 [9,330,1048904,335,1048909]))
def VD:AC:=J_ (fun x y z w v a b c d=>AC.put d [1,1,0,0,1,1,1,1,1,1,1,1] (AC.put c [1,1,0,0,1,1,1,1,1,1,1,0] (AC.put b [1,1,0,0,1,1,1,1,1,1,0] (AC.put a [1,1,0,0,1,1,1,1,1,0] (AC.put v [1,1,0,0,1,1,1,1,0] (AC.put w [1,1,0,0,1,1,1,0] (AC.put z [1,1,0,0,1,1,0] (AC.put y [1,1,0,0,1,0] (AC.put x [1,1,0,0,0] (AC.sub [1,1,1,0,1,0,0] (cc f122 [9,330,1048904,335,1048909]))))))))))) Ix Iw tc Iy Io D1 uA qM zn
def Kq:AC:=dF (fun x=>AC.put x [1,1,1,0,1,0,0] (cc f122 [9,330,1048904,335,1048909])) VD
def Gc:AF:=⟨360,[.tmp 6],Kq⟩
def Fs:AC:=RR (cc f29 [])
def pH:AF:=⟨8,[.tmp 2],Fs⟩
def VM:AC:=RR (AC.sub [1,1,1,0,1,0,0] (cc f186 []))
def Ku:AC:=dF (fun x=>AC.put x [1,1,1,0,1,0,0] (cc f186 [])) VM
def wP:AF:=⟨42,[.tmp 4],Ku⟩
def Ov:AC:=RR (AC.sub [1,0,1,0,0] (cc f224 []))
def Kw:AC:=dF (fun x=>AC.put x [1,0,1,0,0] (cc f224 [])) Ov
def AM:AF:=⟨19,[.tmp 4],Kw⟩
def Q5:AC:=RR (cc f185 [])
def AK:AF:=⟨8,[.tmp 3],Q5⟩
def VL:AC:=RR (AC.sub [1,1,0,1,0,0] (cc f184 []))
def Ks:AC:=dF (fun x=>AC.put x [1,1,0,1,0,0] (cc f184 [])) VL
def Gs:AF:=⟨37,[.cell 4 true 2],Ks⟩
def QT:AC:=RR (cc f120 [])
def Gb:AF:=⟨33,[.tmp 4],QT⟩
def c183:AC:=RR (cc f183 [])
def AJ:AF:=⟨24,[.tmp 2],c183⟩
end
noncomputable section
def V4:AC:=RR (AC.sub [1,1,1,0,1,0,0] (cc f38 []))
def KE:AC:=dF (fun x=>AC.put x [1,1,1,0,1,0,0] (cc f38 [])) V4
def He:AF:=⟨67,[.tmp 4,.tmp 5],KE⟩
def c75:AC:=RR (cc f75 [])
def wT:AF:=⟨17,[.tmp 2],c75⟩
def V2:AC:=RR (AC.sub [1,1,0,1,0,0,1,0,0,1,1,0,1,0,0] (cc f37 []))
def V3:AC:=dF (fun x=>AC.put x [1,0,0,1,1,0,1,0,0] (AC.sub [1,1,0,1,0,0] (cc f37 []))) V2
def c37:AC:=dF (fun x=>AC.put x [1,1,0,1,0,0] (cc f37 [])) V3
def Hd:AF:=⟨57,[.tmp 2],c37⟩
def OC:AC:=RR (AC.sub [1,1,1,1,1,1,0,1,0,0] (cc f5 []))
def OD:AC:=RR (AC.sub [1,1,1,1,1,1,1,1,1,1,1,1,0,1,0,0] (cc f5 []))
def c5:AC:=J9 (fun x y=>AC.put y [1,1,1,1,1,1,1,1,1,1,1,1,0,1,0,0] (AC.put x [1,1,1,1,1,1,0,1,0,0] (cc f5 []))) OC OD
def g5:AF:=⟨166,[.tmp 8],c5⟩
end
noncomputable section
end
noncomputable section
def Fy:AC:=RR (cc f29 [7])
def pJ:AF:=⟨8,[.tmp 2],Fy⟩
def alts(n:Nat):Option AF:=cond (gm n 29) (some pJ) none
def aY(n k:Nat)(a b:Option AF):Option AF:=cond (qf n k) a b
def aW(n k:Nat)(g:AF):Option AF:=cond (gm n k) (some g) none
def fs(n:Nat):Option AF:=aY n 189 (aY n 118 (aY n 66 (aY n 36 (aY n 26 (aY n 19 (aW n 5 g5) (aY n 25 (aW n 19 g19) (aW n 25 GX))) (aY n 32 (aY n 29 (aW n 26 Tj) (aW n 29 pH)) (aY n 35 (aW n 32 Tk) (aW n 35 Hc)))) (aY n 39 (aY n 37 (aW n 36 wS) (aY n 38 (aW n 37 Hd) (aW n 38 He))) (aY n 56 (aY n 43 (aW n 39 Hf) (aW n 43 Hg)) (aY n 65 (aW n 56 Hh) (aW n 65 Hi))))) (aY n 107 (aY n 75 (aY n 70 (aW n 66 Hj) (aY n 72 (aW n 70 Tl) (aW n 72 Tm))) (aY n 85 (aY n 83 (aW n 75 wT) (aW n 83 Hk)) (aY n 105 (aW n 85 CS) (aW n 105 F5)))) (aY n 112 (aY n 108 (aW n 107 jd) (aY n 110 (aW n 108 F6) (aW n 110 F7))) (aY n 114 (aY n 113 (aW n 112 F8) (aW n 113 F9)) (aY n 117 (aW n 114 F_) (aW n 117 F')))))) (aY n 171 (aY n 126 (aY n 121 (aY n 119 (aW n 118 Tc) (aY n 120 (aW n 119 Ga) (aW n 120 Gb))) (aY n 123 (aY n 122 (aW n 121 AG) (aW n 122 Gc)) (aY n 124 (aW n 123 AH) (aW n 124 Gd)))) (aY n 135 (aY n 130 (aW n 126 AI) (aY n 134 (aW n 130 Ge) (aW n 134 Gf))) (aY n 137 (aY n 136 (aW n 135 Gg) (aW n 136 Td)) (aY n 153 (aW n 137 Te) (aW n 153 Gi))))) (aY n 180 (aY n 176 (aY n 172 (aW n 171 Gj) (aY n 175 (aW n 172 Gk) (aW n 175 Gl))) (aY n 178 (aY n 177 (aW n 176 qo) (aW n 177 Gm)) (aY n 179 (aW n 178 Gn) (aW n 179 Gp)))) (aY n 185 (aY n 183 (aY n 182 (aW n 180 Gq) (aW n 182 Gr)) (aY n 184 (aW n 183 AJ) (aW n 184 Gs))) (aY n 187 (aY n 186 (aW n 185 AK) (aW n 186 wP)) (aY n 188 (aW n 187 Gt) (aW n 188 Gu))))))) (aY n 243 (aY n 223 (aY n 203 (aY n 192 (aY n 190 (aW n 189 Gv) (aY n 191 (aW n 190 Gw) (aW n 191 Gx))) (aY n 201 (aY n 193 (aW n 192 Gy) (aW n 193 AL)) (aY n 202 (aW n 201 CP) (aW n 202 Gz)))) (aY n 206 (aY n 204 (aW n 203 GA) (aY n 205 (aW n 204 GB) (aW n 205 GC))) (aY n 208 (aY n 207 (aW n 206 GD) (aW n 207 GF)) (aY n 209 (aW n 208 GG) (aW n 209 Tf))))) (aY n 230 (aY n 226 (aY n 224 (aW n 223 GH) (aY n 225 (aW n 224 AM) (aW n 225 GI))) (aY n 228 (aY n 227 (aW n 226 GJ) (aW n 227 GK)) (aY n 229 (aW n 228 L0) (aW n 229 L4)))) (aY n 239 (aY n 232 (aY n 231 (aW n 230 GL) (aW n 231 GM)) (aY n 233 (aW n 232 dC) (aW n 233 GN))) (aY n 241 (aY n 240 (aW n 239 GO) (aW n 240 Tg)) (aY n 242 (aW n 241 Th) (aW n 242 GP)))))) (aY n 274 (aY n 266 (aY n 246 (aY n 244 (aW n 243 GQ) (aY n 245 (aW n 244 Ti) (aW n 245 GR))) (aY n 248 (aY n 247 (aW n 246 GS) (aW n 247 GU)) (aY n 265 (aW n 248 GV) (aW n 265 GY)))) (aY n 270 (aY n 267 (aW n 266 GZ) (aY n 268 (aW n 267 AN) (aW n 268 CQ))) (aY n 272 (aY n 271 (aW n 270 CR) (aW n 271 G0)) (aY n 273 (aW n 272 AP) (aW n 273 G1))))) (aY n 295 (aY n 282 (aY n 275 (aW n 274 G2) (aY n 276 (aW n 275 G3) (aW n 276 G4))) (aY n 291 (aY n 283 (aW n 282 G5) (aW n 283 G6)) (aY n 294 (aW n 291 G7) (aW n 294 G8)))) (aY n 308 (aY n 297 (aY n 296 (aW n 295 G9) (aW n 296 G_)) (aY n 298 (aW n 297 G') (aW n 298 Ha))) (aY n 310 (aY n 309 (aW n 308 Hb) (aW n 309 wQ)) (aY n 315 (aW n 310 L6) (aW n 315 wR)))))))
def bm(n:Nat):Bool:=cond (qf n 229) (cond (qf n 185) (cond (qf n 36) (gm n 29) (gm n 36)) (cond (qf n 201) (gm n 185) (cond (qf n 228) (gm n 201) (gm n 228)))) (cond (qf n 239) (cond (qf n 233) (gm n 229) (gm n 233)) (cond (qf n 294) (gm n 239) (cond (qf n 310) (gm n 294) (gm n 310))))
def gl(u n:Nat):AV:=cond (gm n 0) (.ref [(.list .any [(.str [120]),(.str [121]),(.str [122]),(.str [104]),(.str [115]),(.str [115,100]),(.str [116]),(.str [116,100]),(.str [99,120]),(.str [99,122]),(.str [115,119,97,112]),(.str [99,99,120])])]) (cond (gm n 1) (.ref [(.list .any [(.str [112,114,111,99]),(.str [116,97,107,101]),(.str [100,114,111,112]),(.str [98,111,114,114,111,119]),(.str [109,101,97,115,117,114,101]),(.str [114,101,115,101,116]),(.str [105,102]),(.str [101,108,115,101]),(.str [102,111,114]),(.str [117,110,100,111]),(.str [119,105,116,104,105,110]),(.str [97,112,112,108,121])])]) (cond (gm n 8) (.ref [.iface u .cU]) .cU))
def EK:AV:= .agg (rl [(97,false),(26,true),(133,false)])
def EM:AV:= .agg (rl [(48,false),(10,true),(198,false)])
def EN:AV:= .agg (rl [(40,false),(6,true),(12,false),(2,true),(1,false),(1,true),(29,false),(1,true),(1,false),(1,true),(29,false),(1,true),(1,false),(1,true),(130,false)])
def Pk(n:Nat):Option Prim:=cond (gm n 109) (some xM) (cond (gm n 269) (some (uJ 350)) (cond (gm n 106) (some (xP 150 5)) (cond (gm n 111) (some (xO 150 5)) (cond (gm n 174) (some xN) (cond (gm n 238) (some xL) (cond (gm n 277) (some xK) none))))))
def C0(u:Nat):iK:= {gl:=gl u,fs:=fs,iX:=Pk,bm:=bm,alts:=alts}
def iX(n:Nat):Option Prim:=cond (gm n 240) (some (uK EK)) (cond (gm n 241) (some (uK EM)) (cond (gm n 244) (some (uK EN)) (Pk n)))
def C(u:Nat):iK:= {gl:=gl u,fs:=fs,iX:=iX,bm:=bm,alts:=alts}
noncomputable abbrev kf(u n:Nat):=ah (C u) (.fn (.func n) [] [])
end
end Go.Δ.Tz
