import Derived.Test.YtkiaifmbbnnliaaGreatCx
namespace Go.Proofs.YtkiaifmbbnnliaaGreat
open Go.RowKit
namespace V
namespace St
def FR_rt : FLay := { ks := [.ag kSo, kKn, .d cI], bs := [], nx := 1000 }
def FE_rt (b : Bool) : FLay := bif b then FR_rt else FN
def erT (e : Int) : (FE_rt true).T := ((([], [], 0, 0, 0, ()), [], e, ()), ())
end St
end V
end Go.Proofs.YtkiaifmbbnnliaaGreat
