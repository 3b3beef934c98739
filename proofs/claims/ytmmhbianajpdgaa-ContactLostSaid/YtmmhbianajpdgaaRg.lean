/- The statement ContactLostSaid: for every input the law ContactLost returns true, and each argument reads as it did. No condition. -/
import Derived.Test.YtmmhbianajpdgaaOg
import Derived.Test.YtmmhbianajpdgaaVo
import Derived.WalkKit
import Derived.ProofKit
import Derived.OpenShut
namespace Go.Proofs.Ytmmhbianajpdgaa.contactLost
open Go.ChangeShapes Go.WideShapes Go.ChangeAt Go.RowKit

theorem own : ownKnob Try.prog.godebug = none := by kernel_rfl
theorem laid : laidOutB Try.prog = true := by kernel_rfl

set_option maxRecDepth 100000 in
theorem lifted (os : Os) (started : os.Started) (H : Type) (enc : TypeId × Value → H) :
    ReturnsInHanded {} Try.checked os 4 .any (Rows.contactLostSpec.pre6 enc Try.prog Try.f4 Rows.contactLostRow.domain false) (Rows.contactLostSpec.post enc Try.prog Try.f4 false true false false) := by
  refine returnsInHanded_of_change (C := Try.checked) own started (by kernel_rfl) Try.func4
    (ChangeSpec.witness6 (enc := enc) (C := Try.checked) false ⟨#[], #[.agg #[.int .i64 0, .int .i64 0], .agg #[.int .i64 0, .int .i64 0, .int .i64 0, .int .i64 0, .int .i64 0, .int .i64 0], .int .u8 0], []⟩ 8 (by kernel_rfl) (by kernel_rfl) (by kernel_rfl) (by kernel_rfl)) ?_
  intro W base args ds gs before hval0 hW hcnd _
  exact V.law_contract (X := V.X_contactLost) V.X_contactLost_ok (P := Try.prog) (by rfl) laid (fn := Try.f4) V.cs_contactLost 8 (by rfl) (by kernel_rfl) (by kernel_rfl) Try.underlying4
    3 (by kernel_rfl) (fun ds h => by match ds, h with | [_, _, _], _ => rfl) V.contactLost_sat hval0 hW

theorem proved : Rows.ContactLostSaid :=
  OpenClaim.holds_of_wide 4 Try.f4 rfl rfl rfl rfl rfl rfl rfl ⟨rfl, rfl, rfl, rfl, rfl⟩ rfl rfl rfl rfl rfl (by kernel_rfl) Try.func4 (by kernel_rfl)
    (of_decide_eq_true (by kernel_rfl)) (by unfold Func.isWrapper; first | (rw [if_pos (by decide +kernel)]; kernel_rfl) | (rw [if_neg (by decide +kernel)]; exact ⟨rfl, rfl⟩))
    (fun os started H enc _ => lifted os started H enc)
#print axioms proved
end Go.Proofs.Ytmmhbianajpdgaa.contactLost
