import Derived.Test.YtkiaifmbbnnliaaGreatCA
namespace Go.Proofs.YtkiaifmbbnnliaaGreat
open Go.RowKit
namespace V
namespace St
theorem is_br : FnIs Tryz.prog (14, Tryz.f14) := ⟨Tryz.func14, by kernel_rfl, by kernel_rfl⟩
def lfU : Tree Unit := .leaf ()
end St
open St
end V
end Go.Proofs.YtkiaifmbbnnliaaGreat
