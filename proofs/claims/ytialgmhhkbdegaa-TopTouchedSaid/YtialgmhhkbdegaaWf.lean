/- A step of a ball, and the law TopStraight. -/
import Derived.Test.YtialgmhhkbdegaaUg
import Derived.Test.YtialgmhhkbdegaaWa
import Derived.Test.YtialgmhhkbdegaaWe
namespace Go.Proofs.Ytialgmhhkbdegaa
open Go.RowKit
namespace V
theorem is_cCheck : FnIs Try.prog (40, Try.f40) := ⟨Try.func40, by kernel_rfl, by kernel_rfl⟩
def plSt : List (Nat × PureT) := (90, ptrAt 0) :: (91, ptrAt 1) :: (20, s_Divide) :: (40, s_rcheck) :: plA
theorem puSt : PuOk Try.prog plSt := puOk_cons is_each1.plain q_each1 (puOk_cons is_each2.plain q_each2 (puOk_cons is_Divide.plain q_Divide (puOk_cons is_cCheck.plain q_rcheck puA)))
theorem q_step : PureOk Try.prog 9 s_Step := q_by (ctx_ok mixed puSt (fns_cons is_Step (fns_cons is_steps (fns_cons is_rollstep (fns_cons is_rollstep1 (fns_cons is_each fns_nil)))))) 8
  (fun x => T_Step (bm x.1 x.2.1)) (fun x => by kernel_rfl) fun _ _ _ => T_Step_ok _
end V
end Go.Proofs.Ytialgmhhkbdegaa
