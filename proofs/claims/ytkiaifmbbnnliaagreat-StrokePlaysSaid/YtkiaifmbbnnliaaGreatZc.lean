import Derived.Test.YtkiaifmbbnnliaaGreatZb
namespace Go.Proofs.YtkiaifmbbnnliaaGreat
open Go.RowKit
namespace V
noncomputable def B9w (X : Ctx) (m : Nat) (f : FuncId) (cs rs : List TC) : PureT := Aun cs rs (fun x => C4 X m (.fn f) (Ce cs x) Be 0 (Ft X.P rs))
theorem B1m {X : Ctx} (hX : CtxOk X) (m : Nat) (f : FuncId) (cs rs : List TC) : A7 X.P f (B9w X m f cs rs) := B9q hX m fun _ => rfl
end V
end Go.Proofs.YtkiaifmbbnnliaaGreat
