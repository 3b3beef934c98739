import Derived.Test.YtkiaifmbbnnliaaGreatCz
namespace Go.Proofs.YtkiaifmbbnnliaaGreat
open Go.RowKit
namespace V
namespace St
abbrev plRT : List (Nat × PureT) := (26, s_Sta) :: plR4
theorem puRT : PuOk Tryz.prog plRT := puOk_cons is_rState.plain q_rState puR4
end St
end V
end Go.Proofs.YtkiaifmbbnnliaaGreat
