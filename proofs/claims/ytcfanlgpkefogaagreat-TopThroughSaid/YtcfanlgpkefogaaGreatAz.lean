import Derived.Test.YtcfanlgpkefogaaGreatAt
import Derived.Test.YtcfanlgpkefogaaGreatAg
import Derived.Test.YtcfanlgpkefogaaGreatFo
import Derived.Test.YtcfanlgpkefogaaGreatAk
import Derived.Test.YtcfanlgpkefogaaGreatDw
import Derived.Test.YtcfanlgpkefogaaGreatAb
namespace Go.Proofs.YtcfanlgpkefogaaGreat
open Go.RowKit
namespace V
namespace Tp
open St
end Tp
open Tp
end V
end Go.Proofs.YtcfanlgpkefogaaGreat
namespace Go.Proofs.YtcfanlgpkefogaaGreat
open Go.RowKit
namespace V
namespace Tp
open St
end Tp
open Tp
end V
end Go.Proofs.YtcfanlgpkefogaaGreat
namespace Go.Proofs.YtcfanlgpkefogaaGreat
open Go.RowKit
namespace V
namespace Tp
open St
abbrev FPl:Type:=TCT cGr→TCT cSt→Int→TkR
abbrev Bdz (P:FPl):PureT:=Bz [cGr,cSt,cI] [cSt,.sl cKn,cI] (fun x=>Acu x.1) (fun x=>Zh (P x.1 x.2.1 x.2.2.1))
end Tp
open Tp
end V
end Go.Proofs.YtcfanlgpkefogaaGreat
namespace Go.Proofs.YtcfanlgpkefogaaGreat
open Go.RowKit
namespace V
end V
end Go.Proofs.YtcfanlgpkefogaaGreat
namespace Go.Proofs.YtcfanlgpkefogaaGreat
open Go.RowKit
namespace V
def Btw (m z:Int):Prop:=(0≤z∧z≤m)∨(m≤z∧z≤0)
def crs (x y u v:Int):Int:=u*y-v*x
def dt2 (x y u v:Int):Int:=u*x+v*y
def ab1 (x y:Int):Int:=(x.natAbs:Int)+(y.natAbs:Int)
theorem B8q {x y:Int}:0≤ab1 x y:=by unfold ab1;omega
structure FrM (x y a b t u v:Int):Prop where
 h1:Btw a u
 h2:Btw b v
 h3 : -(ab1 x y*(2*t+1))≤2*crs x y u v∧2*crs x y u v≤ab1 x y*(2*t+1)
structure FrZ (x y a b c u v:Int):Prop where
 h1:Btw (c*a) u
 h2:Btw (c*b) v
 h3 : -(ab1 x y*(81*c))≤2*crs x y u v∧2*crs x y u v≤ab1 x y*(81*c)
end V
end Go.Proofs.YtcfanlgpkefogaaGreat
