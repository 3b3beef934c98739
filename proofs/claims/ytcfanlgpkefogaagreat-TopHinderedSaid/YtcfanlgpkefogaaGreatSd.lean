import Derived.Test.YtcfanlgpkefogaaGreatSc
namespace Go.Proofs.YtcfanlgpkefogaaGreat
open Go.RowKit
namespace V
def Dfj:Lay:={ keys:=[0,1,5,6,7,8,10,11,12],ks:=[.d (.sl No),.d (.sl Bat),.p 0 0 0 0,.d (.sl Bat),.d (.sl Bek),.d cI,.o 60 Bat,.o 120 Bek,.d cI],bs:=[(0,39,[.d cI,.d cI])],n:=86,nx:=900,marks:=[] }
structure Dm where
 l:List (TCT No)
 s0:List (TCT Bat)
 re:Int
 dr:Int
 r1:List (TCT Bat)
 r2:List (TCT Bek)
 r3:Int
def Kg (i:Int) (c:Dm) (s:SS):Dfj.T:=((c.l,c.s0,(),c.r1,c.r2,c.r3,s.1,s.2,i,()),(c.re,c.dr,()),())
end V
end Go.Proofs.YtcfanlgpkefogaaGreat
