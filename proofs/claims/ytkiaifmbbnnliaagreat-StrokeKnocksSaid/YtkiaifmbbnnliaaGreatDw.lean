import Derived.Test.YtkiaifmbbnnliaaGreatDv
namespace Go.Proofs.YtkiaifmbbnnliaaGreat
open Go.RowKit
namespace V
namespace St
end St
end V
end Go.Proofs.YtkiaifmbbnnliaaGreat
