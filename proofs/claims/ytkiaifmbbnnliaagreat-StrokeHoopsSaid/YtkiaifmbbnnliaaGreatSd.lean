import Derived.Test.YtkiaifmbbnnliaaGreatSc
namespace Go.Proofs.YtkiaifmbbnnliaaGreat
open Go.RowKit
namespace V
end V
end Go.Proofs.YtkiaifmbbnnliaaGreat
