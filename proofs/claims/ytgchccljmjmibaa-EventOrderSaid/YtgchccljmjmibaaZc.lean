/- Contracts without a thought: a function of plain data is what its walk comes to. -/
import Derived.Test.YtgchccljmjmibaaZb
namespace Go.Proofs.Ytgchccljmjmibaa
open Go.RowKit
namespace V
/-- a contract: what the walk comes to, where it comes to an end -/
noncomputable def auto (X : Ctx) (m : Nat) (f : FuncId) (cs rs : List TC) : PureT := tspec cs rs (fun x => evFn X m (.fn f) (encAs cs x) noHeap 0 (outK X.P rs))
theorem auto_ok {X : Ctx} (hX : CtxOk X) (m : Nat) (f : FuncId) (cs rs : List TC) : PureOk X.P f (auto X m f cs rs) := q_tree hX m fun _ => rfl
/-- a contract by the walk at some data alone: T is the walk, T' what it comes to there -/
theorem q_by2 {X : Ctx} (hX : CtxOk X) {f : FuncId} {cs rs : List TC} {ok : TCTs cs → Bool} {F : TCTs cs → TCTs rs} (m : Nat) (T T' : TCTs cs → Tree (TCTs rs))
    (hT : ∀ x : TCTs cs, evFn X m (.fn f) (encAs cs x) noHeap 0 (outK X.P rs) = T x) (h1 : ∀ x, ok x = true → T x = T' x) (h2 : ∀ x, ok x = true → WFDs cs x → (T' x).sat (fun y => y = F x)) : PureOk X.P f (spec cs rs ok F) :=
  q_by hX m T hT fun x h hw => by rw [h1 x h]; exact h2 x h hw
/-- all functions of a context are the program's -/
theorem fns_all {P : Program} {fns : List (Nat × Func)} (h : ∀ p ∈ fns, FnIs P p) : ∀ p ∈ fns, FnIs P p := h
end V
end Go.Proofs.Ytgchccljmjmibaa
