import Derived.Test.YtkiaifmbbnnliaaGreatZb
namespace Go.Proofs.YtkiaifmbbnnliaaGreat
open Go.RowKit
namespace V
noncomputable def auto (X : Ctx) (m : Nat) (f : FuncId) (cs rs : List TC) : PureT := tspec cs rs (fun x => evFn X m (.fn f) (encAs cs x) noHeap 0 (outK X.P rs))
theorem auto_ok {X : Ctx} (hX : CtxOk X) (m : Nat) (f : FuncId) (cs rs : List TC) : PureOk X.P f (auto X m f cs rs) := q_tree hX m fun _ => rfl
end V
end Go.Proofs.YtkiaifmbbnnliaaGreat
