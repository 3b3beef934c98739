/- The law EventDraws. -/
import Derived.Test.YtgchccljmjmibaaFi
namespace Go.Proofs.Ytgchccljmjmibaa
open Go.RowKit
namespace V
namespace Ev
def K_ds (o : List Int × Int) (c : Int) (d : List Int × Int) (m : Int × Int) (u : List Int × Int) : Tree Unit := bif !decide (o.1 = o.1) then .fail else bif o.2 != o.2 then .fail else bif c != c then .fail else bif !decide (d.1 = d.1) then .fail else bif d.2 != d.2 then .fail else bif m.1 != m.1 then .fail else bif m.2 != m.2 then .fail else bif decide (u.1 = u.1) then bif u.2 == u.2 then .leaf () else .fail else .fail
def T_ds (n k : Int) (l s : List Int) (a b : Int) : Tree Unit := bif decide ((l.length : Int) > 100) then .leaf () else bif decide ((s.length : Int) > 100) then .leaf () else K_ds (orV n) (drV s) (drwV n k l) (meV s a b) (suV s a b)
theorem T_ds_ok (n k : Int) (l s : List Int) (a b : Int) : (T_ds n k l s a b).sat (fun _ => True) := by
  unfold T_ds K_ds
  refine sat_cond (fun _ => trivial) fun _ => sat_cond (fun _ => trivial) fun _ => ?_
  simp only [decide_true, Bool.not_true, cond_false, bne_self_eq_false, beq_self_eq_true, cond_true]
  trivial
end Ev
open Ev
theorem T_ds_eq (y : TCTs cs_eventDraws) : evFn X_eventDraws 7 (.fn 8) (encAs cs_eventDraws y) noHeap 0 lawK = T_ds y.1 y.2.1 y.2.2.1 y.2.2.2.1 y.2.2.2.2.1 y.2.2.2.2.2.1 := by kernel_rfl
theorem eventDraws_sat : LawSat X_eventDraws 8 cs_eventDraws 7 := lawSat 7 (fun y => T_ds y.1 y.2.1 y.2.2.1 y.2.2.2.1 y.2.2.2.2.1 y.2.2.2.2.2.1) T_ds_eq fun y _ => T_ds_ok y.1 y.2.1 y.2.2.1 y.2.2.2.1 y.2.2.2.2.1 y.2.2.2.2.2.1
end V
end Go.Proofs.Ytgchccljmjmibaa
