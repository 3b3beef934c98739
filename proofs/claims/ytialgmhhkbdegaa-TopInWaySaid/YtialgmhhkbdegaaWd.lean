/- The statement TopInWaySaid: for every input the law TopInWay returns true, and each argument reads as it did. No condition. -/
import Derived.Test.YtialgmhhkbdegaaWc
import Derived.Test.YtialgmhhkbdegaaRows
import Derived.Test.YtialgmhhkbdegaaVC
import Derived.WalkKit
import Derived.ProofKit
import Derived.OpenShut
namespace Go.Proofs.Ytialgmhhkbdegaa.topInWay
open Go.ChangeShapes Go.WideShapes Go.ChangeAt Go.RowKit

theorem own : ownKnob Try.prog.godebug = none := by kernel_rfl
theorem laid : laidOutB Try.prog = true := by kernel_rfl

set_option maxRecDepth 100000 in
theorem lifted (os : Os) (started : os.Started) (H : Type) (enc : TypeId × Value → H) :
    ReturnsInHanded {} Try.checked os 4 .any (Rows.topInWaySpec.pre6 enc Try.prog Try.f4 Rows.topInWayRow.domain false) (Rows.topInWaySpec.post enc Try.prog Try.f4 false true false false) := by
  refine returnsInHanded_of_change (C := Try.checked) own started (by kernel_rfl) Try.func4
    (ChangeSpec.witness6 (enc := enc) (C := Try.checked) false ⟨#[], #[.agg #[.int .u16 0, .int .u16 0], .agg #[.int .u16 0, .int .u16 0], .int .u16 0, .bool false], []⟩ 8 (by kernel_rfl) (by kernel_rfl) (by kernel_rfl) (by kernel_rfl)) ?_
  intro W base args ds gs before hval0 hW hcnd _
  exact V.law_contract (X := V.X_topInWay) V.X_topInWay_ok (P := Try.prog) (by rfl) laid (fn := Try.f4) V.cs_topInWay 12 (by rfl) (by kernel_rfl) (by kernel_rfl) Try.underlying4
    4 (by kernel_rfl) (fun ds h => by match ds, h with | [_, _, _, _], _ => rfl) V.topInWay_sat hval0 hW

theorem proved : Rows.TopInWaySaid :=
  OpenClaim.holds_of_wide 4 Try.f4 rfl rfl rfl rfl rfl rfl rfl ⟨rfl, rfl, rfl, rfl, rfl⟩ rfl rfl rfl rfl rfl (by kernel_rfl) Try.func4 (by kernel_rfl)
    (of_decide_eq_true (by kernel_rfl)) (by unfold Func.isWrapper; first | (rw [if_pos (by decide +kernel)]; kernel_rfl) | (rw [if_neg (by decide +kernel)]; exact ⟨rfl, rfl⟩))
    (fun os started H enc _ => lifted os started H enc)
#print axioms proved
end Go.Proofs.Ytialgmhhkbdegaa.topInWay
