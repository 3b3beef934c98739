import Derived.Test.YtlangijnealfjaaGreatUj
import Derived.Test.YtlangijnealfjaaGreatVC
namespace Go.Proofs.YtlangijnealfjaaGreat
open Go.RowKit
namespace V
end V
end Go.Proofs.YtlangijnealfjaaGreat
namespace Go.Proofs.YtlangijnealfjaaGreat
open Go.RowKit
namespace V
abbrev A0x:TC:=.st [cI,cI]
abbrev SS:=List (TCT Bn)×List (TCT A0x)
def bAt (l:List (TCT Be)) (o:List (TCT Bn)) (i:Nat):Bm:=bm (Ar l i (Ap Be)) (Ar o i (Ap Bn))
@[irreducible] def Arq (l:List (TCT Be)) (re dr:Int) (i k:Nat) (s:SS):Option SS :=
 bif (Qm (bAt l s.1 i) (bAt l s.1 k) re dr).2.2.1==0 then some (Db (Db s.1 i (Qm (bAt l s.1 i) (bAt l s.1 k) re dr).1) k (Qm (bAt l s.1 i) (bAt l s.1 k) re dr).2.1,s.2++[((i:Int),(k:Int),())]) else
 bif (Qm (bAt l s.1 i) (bAt l s.1 k) re dr).2.2.1==4 then none else some s
def inR (l:List (TCT Be)) (re dr:Int) (i:Nat):Nat→Nat→SS→Option SS
 | 0,_,s=>some s
 | f+1,k,s=>(Arq l re dr i k s).bind fun s'=>inR l re dr i f (k+1) s'
def okS (x:Option SS):Bool:=match x with
 | some _=>true
 | none=>false
structure Cm where
 l:List (TCT Be)
 re:Int
 dr:Int
 r1:List (TCT Bn)
 r2:List (TCT A0x)
 r3:Int
 m:Int
end V
end Go.Proofs.YtlangijnealfjaaGreat
namespace Go.Proofs.YtlangijnealfjaaGreat
open Go.RowKit
namespace V
def okO (n j:Int) (c:Cm) (s:SS):Bool:=decide (0≤j∧j≤n∧n=c.m∧c.m=(c.l.length:Int)∧c.l.length≤1000∧s.1.length=c.l.length∧s.2.length+(n-j).toNat*1000≤1000000)
end V
end Go.Proofs.YtlangijnealfjaaGreat
namespace Go.Proofs.YtlangijnealfjaaGreat
open Go.RowKit
namespace V
end V
end Go.Proofs.YtlangijnealfjaaGreat
