import Derived.Test.YtkiaifmbbnnliaaGreatCA
namespace Go.Proofs.YtkiaifmbbnnliaaGreat
open Go.RowKit
namespace V
namespace St
def lfU : Tree Unit := .leaf ()
end St
open St
end V
end Go.Proofs.YtkiaifmbbnnliaaGreat
