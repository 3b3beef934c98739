/- Contracts whose results are worked out: for walks of closed code, where numbers would pile up as sums of sums. -/
import Derived.Test.YtgchccljmjmibaaZc
namespace Go.Proofs.Ytgchccljmjmibaa
open Go.RowKit
namespace V
/-- a contract by the walk, its result worked out -/
noncomputable def autoF (X : Ctx) (m : Nat) (f : FuncId) (cs rs : List TC) : PureT :=
  { run := fun l => match decAs cs l with
      | some x => fcTs cs x fun x => fcTs rs ((evFn X m (.fn f) (encAs cs x) noHeap 0 (outK X.P rs)).val (dflts rs)) fun y => some ((evFn X m (.fn f) (encAs cs x) noHeap 0 (outK X.P rs)).isLeaf, encR rs y)
      | none => none
    flat := noSls rs }
theorem autoF_eq (X : Ctx) (m : Nat) (f : FuncId) (cs rs : List TC) : autoF X m f cs rs = auto X m f cs rs := by
  unfold autoF auto tspec spec
  congr 1
  funext l
  cases decAs cs l with
  | none => rfl
  | some x => simp only [fcTs_eq]
theorem autoF_ok {X : Ctx} (hX : CtxOk X) (m : Nat) (f : FuncId) (cs rs : List TC) : PureOk X.P f (autoF X m f cs rs) := by
  rw [autoF_eq]; exact auto_ok hX m f cs rs
end V
end Go.Proofs.Ytgchccljmjmibaa
