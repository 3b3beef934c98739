/- The statement EventOrderSaid: for every input the law EventOrder returns true, and each argument reads as it did. No condition. -/
import Derived.Test.YtgchccljmjmibaaHh
import Derived.Test.YtgchccljmjmibaaRows
import Derived.Test.YtgchccljmjmibaaVC
import Derived.WalkKit
import Derived.ProofKit
import Derived.OpenShut
namespace Go.Proofs.Ytgchccljmjmibaa.eventOrder
open Go.ChangeShapes Go.WideShapes Go.ChangeAt Go.RowKit

theorem own : ownKnob Try.prog.godebug = none := by kernel_rfl
theorem laid : laidOutB Try.prog = true := by kernel_rfl

set_option maxRecDepth 100000 in
theorem lifted (os : Os) (started : os.Started) (H : Type) (enc : TypeId × Value → H) :
    ReturnsInHanded {} Try.checked os 13 .any (Rows.eventOrderSpec.pre6 enc Try.prog Try.f13 Rows.eventOrderRow.domain false) (Rows.eventOrderSpec.post enc Try.prog Try.f13 false true false false) := by
  refine returnsInHanded_of_change (C := Try.checked) own started (by kernel_rfl) Try.func13
    (ChangeSpec.witness6 (enc := enc) (C := Try.checked) false ⟨#[], #[.slice none 0 0, .int .i64 0, .slice none 0 0, .int .u8 0, .int .u8 0, .agg #[.int .i64 0, .int .i64 0, .int .i64 0, .int .i64 0]], []⟩ 8 (by kernel_rfl) (by kernel_rfl) (by kernel_rfl) (by kernel_rfl)) ?_
  intro W base args ds gs before hval0 hW hcnd _
  exact V.law_contract (X := V.Ev.X_eventOrder) V.Ev.X_eventOrder_ok (P := Try.prog) (by rfl) laid (fn := Try.f13) V.cs_eventOrder 7 (by rfl) (by kernel_rfl) (by kernel_rfl) Try.underlying4
    6 (by kernel_rfl) (fun ds h => by match ds, h with | [_, _, _, _, _, _], _ => rfl) V.eventOrder_sat hval0 hW

theorem proved : Rows.EventOrderSaid :=
  OpenClaim.holds_of_wide 13 Try.f13 rfl rfl rfl rfl rfl rfl rfl ⟨rfl, rfl, rfl, rfl, rfl⟩ rfl rfl rfl rfl rfl (by kernel_rfl) Try.func13 (by kernel_rfl)
    (of_decide_eq_true (by kernel_rfl)) (by unfold Func.isWrapper; first | (rw [if_pos (by decide +kernel)]; kernel_rfl) | (rw [if_neg (by decide +kernel)]; exact ⟨rfl, rfl⟩))
    (fun os started H enc _ => lifted os started H enc)
#print axioms proved
end Go.Proofs.Ytgchccljmjmibaa.eventOrder
