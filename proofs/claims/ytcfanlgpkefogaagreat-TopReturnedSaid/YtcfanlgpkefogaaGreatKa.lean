import Derived.Test.YtcfanlgpkefogaaGreatAt
import Derived.Test.YtcfanlgpkefogaaGreatAg
import Derived.Test.YtcfanlgpkefogaaGreatFo
import Derived.Test.YtcfanlgpkefogaaGreatAk
import Derived.Test.YtcfanlgpkefogaaGreatDw
import Derived.Test.YtcfanlgpkefogaaGreatAb
namespace Go.Proofs.YtcfanlgpkefogaaGreat
open Go.RowKit
namespace V
namespace Tp
open St
end Tp
open Tp
end V
end Go.Proofs.YtcfanlgpkefogaaGreat
namespace Go.Proofs.YtcfanlgpkefogaaGreat
open Go.RowKit
namespace V
namespace Tp
open St
end Tp
open Tp
end V
end Go.Proofs.YtcfanlgpkefogaaGreat
namespace Go.Proofs.YtcfanlgpkefogaaGreat
open Go.RowKit
namespace V
namespace Tp
open St
end Tp
open Tp
end V
end Go.Proofs.YtcfanlgpkefogaaGreat
namespace Go.Proofs.YtcfanlgpkefogaaGreat
open Go.RowKit
namespace V
end V
end Go.Proofs.YtcfanlgpkefogaaGreat
namespace Go.Proofs.YtcfanlgpkefogaaGreat
open Go.RowKit
namespace V
def crs (x y u v:Int):Int:=u*y-v*x
def dt2 (x y u v:Int):Int:=u*x+v*y
end V
end Go.Proofs.YtcfanlgpkefogaaGreat
namespace Go.Proofs.YtcfanlgpkefogaaGreat
open Go.RowKit
namespace V
theorem frame {x y L B1 B2 D1 D2:Int} (hQ:0<x*x+y*y) (hL:0≤L) (hL2:L*L≤2*(x*x+y*y)) (cB : -L≤2*crs x y B1 B2∧2*crs x y B1 B2≤L) (cD : -(2*L)≤crs x y D1 D2∧crs x y D1 D2≤2*L) (p0:0≤dt2 x y D1 D2) (p1:dt2 x y D1 D2+2*L≤dt2 x y B1 B2) :
  (B1*D2-B2*D1)*(B1*D2-B2*D1)≤25*(B1*B1+B2*B2)∧B1*D1+B2*D2≤B1*B1+B2*B2:=by
 have e1:(x*x+y*y)*(B1*D2-B2*D1)=crs x y B1 B2*dt2 x y D1 D2-dt2 x y B1 B2*crs x y D1 D2:=by unfold crs dt2;grind
 have e2:(x*x+y*y)*(B1*B1+B2*B2-(B1*D1+B2*D2))=dt2 x y B1 B2*(dt2 x y B1 B2-dt2 x y D1 D2)+crs x y B1 B2*(crs x y B1 B2-crs x y D1 D2):=by unfold crs dt2;grind
 have e3:(x*x+y*y)*(B1*B1+B2*B2)=dt2 x y B1 B2*dt2 x y B1 B2+crs x y B1 B2*crs x y B1 B2:=by unfold crs dt2;grind
 generalize x*x+y*y=Q at *
 generalize crs x y B1 B2=cb at *
 generalize crs x y D1 D2=cd at *
 generalize dt2 x y B1 B2=pb at *
 generalize dt2 x y D1 D2=pd at *
 generalize B1*D2-B2*D1=X at *
 generalize B1*D1+B2*D2=Y at *
 generalize B1*B1+B2*B2=Z at *
 refine ⟨?_,?_⟩
 ·have a1:2*(cb*pd)≤L*pb ∧ -(L*pb)≤2*(cb*pd):=by
   have a:(2*cb)*pd≤L*pd:=Int.mul_le_mul_of_nonneg_right cB.2 p0
   have b : -L*pd≤(2*cb)*pd:=Int.mul_le_mul_of_nonneg_right cB.1 p0
   have c:L*pd≤L*pb:=Int.mul_le_mul_of_nonneg_left (by omega) hL
   have d:(2*cb)*pd=2*(cb*pd):=by grind
   have e : -L*pd = -(L*pd):=Int.neg_mul _ _
   omega
  have a2:pb*cd≤2*(L*pb) ∧ -(2*(L*pb))≤pb*cd:=by
   have a:pb*cd≤pb*(2*L):=Int.mul_le_mul_of_nonneg_left cD.2 (by omega)
   have b:pb * -(2*L)≤pb*cd:=Int.mul_le_mul_of_nonneg_left cD.1 (by omega)
   have c:pb*(2*L)=2*(L*pb):=by grind
   have d:pb * -(2*L) = -(2*(L*pb)):=by grind
   omega
  have a3 : -(5*(L*pb))≤2*(Q*X)∧2*(Q*X)≤5*(L*pb):=by omega
  have a4:0≤L*pb:=Int.mul_nonneg hL (by omega)
  have a5:(2*(Q*X))*(2*(Q*X))≤(5*(L*pb))*(5*(L*pb)):=by
   have a:0≤(5*(L*pb)-2*(Q*X))*(5*(L*pb)+2*(Q*X)):=Int.mul_nonneg (by omega) (by omega)
   have b:(5*(L*pb)-2*(Q*X))*(5*(L*pb)+2*(Q*X))=(5*(L*pb))*(5*(L*pb))-(2*(Q*X))*(2*(Q*X)):=by grind
   omega
  have a6:(5*(L*pb))*(5*(L*pb))=25*((L*L)*(pb*pb)):=by grind
  have a7:(L*L)*(pb*pb)≤(2*Q)*(pb*pb):=Int.mul_le_mul_of_nonneg_right hL2 (A8b pb)
  have a8:(2*Q)*(pb*pb)≤(2*Q)*(Q*Z):=Int.mul_le_mul_of_nonneg_left (by have:=A8b cb;omega) (by omega)
  have a9:(2*(Q*X))*(2*(Q*X))=(Q*Q)*(4*(X*X)):=by grind
  have a10:(2*Q)*(Q*Z)=(Q*Q)*(2*Z):=by grind
  have a11:(Q*Q)*(4*(X*X))≤(Q*Q)*(50*Z):=by
   have:(Q*Q)*(50*Z)=25*((Q*Q)*(2*Z)):=by grind
   omega
  have:=Int.le_of_mul_le_mul_left a11 (Int.mul_pos hQ hQ)
  have h0:0≤Q*Z:=by rw [e3];exact Int.add_nonneg (A8b pb) (A8b cb)
  have h1:0≤Z:=by
   rcases Int.lt_or_le Z 0 with k | k
   ·have:=Int.mul_neg_of_pos_of_neg hQ k
    omega
   ·exact k
  omega
 ·have b1:(2*L)*(2*L)≤pb*(pb-pd):=Int.mul_le_mul (by omega) (by omega) (by omega) (by omega)
  have b2 : -(5*(L*L))≤2*cb*(2*(cb-cd)):=by
   have a : -(5*(L*L))≤2*cb*(2*(cb-cd)):=by
    have h1:0≤(L+2*cb)*(5*L+2*(cb-cd)):=Int.mul_nonneg (by omega) (by omega)
    have h2:0≤(L-2*cb)*(5*L-2*(cb-cd)):=Int.mul_nonneg (by omega) (by omega)
    have h3:(L+2*cb)*(5*L+2*(cb-cd))+(L-2*cb)*(5*L-2*(cb-cd))=10*(L*L)+2*(2*cb*(2*(cb-cd))):=by grind
    omega
   exact a
  have b3:2*cb*(2*(cb-cd))=4*(cb*(cb-cd)):=by grind
  have b4:(2*L)*(2*L)=4*(L*L):=by grind
  have b5:=A8b L
  have b6:0≤Q*(Z-Y):=by omega
  rcases Int.lt_or_le (Z-Y) 0 with k | k
  ·have:=Int.mul_neg_of_pos_of_neg hQ k
   omega
  ·omega
end V
end Go.Proofs.YtcfanlgpkefogaaGreat
