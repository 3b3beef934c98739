import Derived.Test.YtcfanlgpkefogaaGreatBA
import Derived.Test.YtcfanlgpkefogaaGreatNd
import Derived.Test.YtcfanlgpkefogaaGreatAg
import Derived.Test.YtcfanlgpkefogaaGreatFo
import Derived.Test.YtcfanlgpkefogaaGreatAk
namespace Go.Proofs.YtcfanlgpkefogaaGreat
open Go.RowKit
namespace V
def pQ (nx ny:Int):Int:=nx*nx+ny*ny
structure KFit (nx ny ux uy re dr be:Int):Prop where
 n1 : -8192≤nx
 n2:nx≤8192
 n3 : -8192≤ny
 n4:ny≤8192
 u1 : -16777216000≤ux
 u2:ux≤16777216000
 u3 : -16777216000≤uy
 u4:uy≤16777216000
 r1:0≤re
 r2:re≤950
 d1:0≤dr
 d2:dr≤300
 b1:1≤be
 b2:be≤1000
 q:3515625≤pQ nx ny
theorem KFit.neg {nx ny ux uy re dr be:Int} (h:KFit nx ny ux uy re dr be):KFit (-nx) ny (-ux) uy re dr be:=by
 obtain ⟨n1,n2,n3,n4,u1,u2,u3,u4,r1,r2,d1,d2,b1,b2,hq⟩:=h
 exact ⟨by omega,by omega,n3,n4,by omega,by omega,u3,u4,r1,r2,d1,d2,b1,b2,by unfold pQ at *;rw [Int.neg_mul_neg];exact hq⟩
end V
end Go.Proofs.YtcfanlgpkefogaaGreat
namespace Go.Proofs.YtcfanlgpkefogaaGreat
open Go.RowKit
namespace V
theorem A7s (a:Int):0≤a*a:=by rw [← Int.natAbs_mul_self' a];exact Int.natCast_nonneg _
end V
end Go.Proofs.YtcfanlgpkefogaaGreat
namespace Go.Proofs.YtcfanlgpkefogaaGreat
open Go.RowKit
namespace V
def Bm.mv (a:Bm) (x y:Int):Bm:={ a with mx:=x,my:=y }
end V
end Go.Proofs.YtcfanlgpkefogaaGreat
namespace Go.Proofs.YtcfanlgpkefogaaGreat
open Go.RowKit
namespace V
end V
end Go.Proofs.YtcfanlgpkefogaaGreat
namespace Go.Proofs.YtcfanlgpkefogaaGreat
open Go.RowKit
namespace V
namespace St
end St
end V
end Go.Proofs.YtcfanlgpkefogaaGreat
namespace Go.Proofs.YtcfanlgpkefogaaGreat
open Go.RowKit
namespace V
namespace Tp
open St
noncomputable def Yb:Code:=(Ak (bodyOf Tryz.f4)).getD 0 .skip
end Tp
open Tp
end V
end Go.Proofs.YtcfanlgpkefogaaGreat
namespace Go.Proofs.YtcfanlgpkefogaaGreat
open Go.RowKit
namespace V
namespace Tp
open St
end Tp
open Tp
end V
end Go.Proofs.YtcfanlgpkefogaaGreat
namespace Go.Proofs.YtcfanlgpkefogaaGreat
open Go.RowKit
namespace V
namespace St
end St
end V
end Go.Proofs.YtcfanlgpkefogaaGreat
