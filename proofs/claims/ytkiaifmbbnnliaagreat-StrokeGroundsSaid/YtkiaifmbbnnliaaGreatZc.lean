/- Contracts without a thought: a function of plain data is what its walk comes to. -/
import Derived.Test.YtkiaifmbbnnliaaGreatZb
namespace Go.Proofs.YtkiaifmbbnnliaaGreat
open Go.RowKit
namespace V
/-- a contract: what the walk comes to, where it comes to an end -/
noncomputable def auto (X : Ctx) (m : Nat) (f : FuncId) (cs rs : List TC) : PureT := tspec cs rs (fun x => evFn X m (.fn f) (encAs cs x) noHeap 0 (outK X.P rs))
theorem auto_ok {X : Ctx} (hX : CtxOk X) (m : Nat) (f : FuncId) (cs rs : List TC) : PureOk X.P f (auto X m f cs rs) := q_tree hX m fun _ => rfl
end V
end Go.Proofs.YtkiaifmbbnnliaaGreat
