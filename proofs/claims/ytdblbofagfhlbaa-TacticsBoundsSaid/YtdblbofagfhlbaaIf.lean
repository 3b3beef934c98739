/- The statement TacticsBoundsSaid: for every input the law TacticsBounds returns true, and each argument reads as it did. No condition. -/
import Derived.Test.YtdblbofagfhlbaaHf
import Derived.Test.YtdblbofagfhlbaaRows
import Derived.Test.YtdblbofagfhlbaaVC
import Derived.WalkKit
import Derived.ProofKit
import Derived.OpenShut
namespace Go.Proofs.Ytdblbofagfhlbaa.tacticsBounds
open Go.ChangeShapes Go.WideShapes Go.ChangeAt Go.RowKit

theorem own : ownKnob Try.prog.godebug = none := by kernel_rfl
theorem laid : laidOutB Try.prog = true := by kernel_rfl

set_option maxRecDepth 100000 in
theorem lifted (os : Os) (started : os.Started) (H : Type) (enc : TypeId × Value → H) :
    ReturnsInHanded {} Try.checked os 4 .any (Rows.tacticsBoundsSpec.pre6 enc Try.prog Try.f4 Rows.tacticsBoundsRow.domain false) (Rows.tacticsBoundsSpec.post enc Try.prog Try.f4 false true false false) := by
  refine returnsInHanded_of_change (C := Try.checked) own started (by kernel_rfl) Try.func4
    (ChangeSpec.witness6 (enc := enc) (C := Try.checked) false ⟨#[], #[.agg #[.int .i64 0, .int .i64 0, .slice none 0 0, .int .i64 0, .int .i64 0, .int .i64 0, .int .i64 0, .int .i64 0, .int .i64 0, .int .i64 0, .int .i64 0, .int .i64 0, .int .i64 0, .int .i64 0, .int .i64 0], .agg #[.int .i64 0, .int .i64 0, .slice none 0 0, .slice none 0 0], .slice none 0 0], []⟩ 8 (by kernel_rfl) (by kernel_rfl) (by kernel_rfl) (by kernel_rfl)) ?_
  intro W base args ds gs before hval0 hW hcnd _
  exact V.law_contract (X := V.X_tacticsBounds) V.X_tacticsBounds_ok (P := Try.prog) (by rfl) laid (fn := Try.f4) V.cs_tacticsBounds 8 (by rfl) (by kernel_rfl) (by kernel_rfl) Try.underlying4
    3 (by kernel_rfl) (fun ds h => by match ds, h with | [_, _, _], _ => rfl) V.tacticsBounds_sat hval0 hW

theorem proved : Rows.TacticsBoundsSaid :=
  OpenClaim.holds_of_wide 4 Try.f4 rfl rfl rfl rfl rfl rfl rfl ⟨rfl, rfl, rfl, rfl, rfl⟩ rfl rfl rfl rfl rfl (by kernel_rfl) Try.func4 (by kernel_rfl)
    (of_decide_eq_true (by kernel_rfl)) (by unfold Func.isWrapper; first | (rw [if_pos (by decide +kernel)]; kernel_rfl) | (rw [if_neg (by decide +kernel)]; exact ⟨rfl, rfl⟩))
    (fun os started H enc _ => lifted os started H enc)
#print axioms proved
end Go.Proofs.Ytdblbofagfhlbaa.tacticsBounds
