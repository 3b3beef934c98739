import Derived.Test.YtlangijnealfjaaGreatUj
import Derived.Test.YtlangijnealfjaaGreatVC
namespace Go.Proofs.YtlangijnealfjaaGreat
open Go.RowKit
namespace V
end V
end Go.Proofs.YtlangijnealfjaaGreat
namespace Go.Proofs.YtlangijnealfjaaGreat
open Go.RowKit
namespace V
abbrev A3e:TC:=.st [cI,cI]
abbrev SS:=List (TCT Bz)×List (TCT A3e)
def bAt (l:List (TCT Bo)) (o:List (TCT Bz)) (i:Nat):Bm:=bm (A7 l i (A5 Bo)) (A7 o i (A5 Bz))
@[irreducible] def Ax2 (l:List (TCT Bo)) (re dr:Int) (i k:Nat) (s:SS):Option SS :=
 bif (Se (bAt l s.1 i) (bAt l s.1 k) re dr).2.2.1==0 then some (Dn (Dn s.1 i (Se (bAt l s.1 i) (bAt l s.1 k) re dr).1) k (Se (bAt l s.1 i) (bAt l s.1 k) re dr).2.1,s.2++[((i:Int),(k:Int),())]) else
 bif (Se (bAt l s.1 i) (bAt l s.1 k) re dr).2.2.1==4 then none else some s
def inR (l:List (TCT Bo)) (re dr:Int) (i:Nat):Nat→Nat→SS→Option SS
 | 0,_,s=>some s
 | f+1,k,s=>(Ax2 l re dr i k s).bind fun s'=>inR l re dr i f (k+1) s'
def okS (x:Option SS):Bool:=match x with
 | some _=>true
 | none=>false
structure Cm where
 l:List (TCT Bo)
 re:Int
 dr:Int
 r1:List (TCT Bz)
 r2:List (TCT A3e)
 r3:Int
 m:Int
end V
end Go.Proofs.YtlangijnealfjaaGreat
namespace Go.Proofs.YtlangijnealfjaaGreat
open Go.RowKit
namespace V
def okO (n j:Int) (c:Cm) (s:SS):Bool:=decide (0≤j∧j≤n∧n=c.m∧c.m=(c.l.length:Int)∧c.l.length≤1000∧s.1.length=c.l.length∧s.2.length+(n-j).toNat*1000≤1000000)
end V
end Go.Proofs.YtlangijnealfjaaGreat
namespace Go.Proofs.YtlangijnealfjaaGreat
open Go.RowKit
namespace V
end V
end Go.Proofs.YtlangijnealfjaaGreat
