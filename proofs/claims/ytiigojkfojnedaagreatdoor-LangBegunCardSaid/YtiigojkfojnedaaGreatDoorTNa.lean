import Derived.Test.YtiigojkfojnedaaGreatDoorTKw
set_option linter.all false
set_option maxRecDepth 100000
set_option maxHeartbeats 8000000
namespace Go.Δ
def Fa{α β:Type}(q:α->β->Bool):List α->List β->Bool
 |[],[]=>true
 |a::l,b::l'=>q a b&&Fa q l l'
 |_,_=>false
end Go.Δ
namespace Go.Δ.Tz
open Go.Δ
variable{u:Nat}
attribute [local simp] exec dT dG eR aH dr ff eH aI fA bQ gX ib iC iL AV.cells newVar iH rd wr gL single dd cA eU ef κ cH RV.get cJ fF jU
end Go.Δ.Tz
namespace Go.Δ
mutual
def η.eqv:η->η->Bool
 | .mk k n s _ l,.mk k' n' s' _ l'=>k==k'&&(n==n'&&(s==s'&&η.wL l l'))
def η.wL:List η->List η->Bool
 |[],[]=>true
 |a::l,b::l'=>a.eqv b&&η.wL l l'
 |_,_=>false
end
def ρ.eqv(p q:ρ):Bool:=p.name==q.name&&Fa η.eqv p.ix q.ix
def ay.eqv(p q:ay):Bool:=p.name==q.name&&p.size==q.size
structure η.Qh (x:η):Prop where
 fx:Fx x.av
 cnt:x.cnt<1000000000000
structure ρ.Qh (p:ρ):Prop where
 fx:Fx p.av
 len:p.ix.length<1000000000000
 qL:∀x∈p.ix,x.Qh
end Go.Δ
namespace Go.Δ.Tz
open Go.Δ
variable{u:Nat}
attribute [local simp] exec dT dG eR aH dr ff eH aI fA bQ gX ib iC iL AV.cells newVar iH rd wr gL single dd cA eU ef κ cH RV.get cJ fF jU
end Go.Δ.Tz
namespace Go.Δ
mutual
def δ.eqv:δ->δ->Bool
 | .mk k g nm _ pl sz to _ b _ e,.mk k' g' IY _ I_ eQ to' _ b' _ e'=>k==k'&&(g==g'&&(nm==IY&&(sz.eqv eQ&&(to.eqv to'&&(δ.wL b b'&&(δ.wL e e'&&Fa ρ.eqv pl I_))))))
def δ.wL:List δ->List δ->Bool
 |[],[]=>true
 |a::l,b::l'=>a.eqv b&&δ.wL l l'
 |_,_=>false
end
def φ.eqv(x y:φ):Bool:=x.name==y.name&&(Fa ay.eqv x.aq y.aq&&δ.wL x.body y.body)
end Go.Δ
namespace Go.Δ.Tz
open Go.Δ
variable{u:Nat}
attribute [local simp] exec dT dG eR aH dr ff eH aI fA bQ gX ib iC iL AV.cells newVar iH rd wr gL single dd cA eU ef κ cH RV.get cJ fF jU
structure EqS (u fi fl:Nat):Prop where
 sts:∀(l l':List δ),δ.da l->δ.da l'->δ.bX l<1000000000000->δ.bX l'<1000000000000->∀c c' m,ah (C u) (.fn (.func fl) [] []) [.list c (δ.ψ l),.list c' (δ.ψ l')] m=some (.bool (δ.wL l l'),m)
end Go.Δ.Tz
