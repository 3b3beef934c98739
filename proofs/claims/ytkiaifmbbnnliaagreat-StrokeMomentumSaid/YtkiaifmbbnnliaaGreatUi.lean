import Derived.Test.YtkiaifmbbnnliaaGreatUh
namespace Go.Proofs.YtkiaifmbbnnliaaGreat
open Go.RowKit
namespace V
def stB (a : Bm) : Bm := { a with px := sX a, py := sY a, rx := DR (a.mx + a.rx) (64 * a.m), ry := DR (a.my + a.ry) (64 * a.m) }
def stE : Nat → Bm → Bm
 | 0, a => a
 | k + 1, a => bif fpt (sX a) (sY a) then stE k (stB a) else stB a
def Lrt : Lay := { keys := [2, 3, 4, 6, 7, 8], ks := [.d cI, .p 0 0 0 0, .p 1 0 0 0, .p 2 0 0 0, .d cI, .d cI], bs := [(0, 117, [.d cI, .d cI]), (1, 62, [.d cI, .d cI, .d cI, .d cI, .d cI, .d cI]), (2, 62, [.d cI, .d cI, .d cI, .d cI, .d cI, .d cI])], n := 41, nx := 1000, marks := [] }
def hB (g : Lrt.T) : Bm := ⟨g.2.1.1, g.2.1.2.1, g.2.2.1.1, g.2.2.1.2.1, g.2.2.1.2.2.1, g.2.2.1.2.2.2.1, g.2.2.1.2.2.2.2.1, g.2.2.1.2.2.2.2.2.1⟩
end V
end Go.Proofs.YtkiaifmbbnnliaaGreat
