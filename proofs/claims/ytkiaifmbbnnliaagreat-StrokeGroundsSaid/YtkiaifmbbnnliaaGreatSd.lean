/- Settle of contact's reference: the loops over the pairs; the contract. -/
import Derived.Test.YtkiaifmbbnnliaaGreatSc
namespace Go.Proofs.YtkiaifmbbnnliaaGreat
open Go.RowKit
namespace V
/-! the outer loop -/
end V
end Go.Proofs.YtkiaifmbbnnliaaGreat
