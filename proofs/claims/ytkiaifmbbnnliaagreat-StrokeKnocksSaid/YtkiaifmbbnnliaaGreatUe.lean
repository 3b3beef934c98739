import Derived.Test.YtkiaifmbbnnliaaGreatUd
namespace Go.Proofs.YtkiaifmbbnnliaaGreat
open Go.RowKit
namespace V
end V
end Go.Proofs.YtkiaifmbbnnliaaGreat
