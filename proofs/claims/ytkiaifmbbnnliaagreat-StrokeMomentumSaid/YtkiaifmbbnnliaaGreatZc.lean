import Derived.Test.YtkiaifmbbnnliaaGreatZb
namespace Go.Proofs.YtkiaifmbbnnliaaGreat
open Go.RowKit
namespace V
noncomputable def B2z (X : Ctx) (m : Nat) (f : FuncId) (cs rs : List TC) : PureT := Apn cs rs (fun x => Ch X m (.fn f) (Co cs x) Bl 0 (Hn X.P rs))
theorem Awi {X : Ctx} (hX : CtxOk X) (m : Nat) (f : FuncId) (cs rs : List TC) : A7 X.P f (B2z X m f cs rs) := B2t hX m fun _ => rfl
end V
end Go.Proofs.YtkiaifmbbnnliaaGreat
