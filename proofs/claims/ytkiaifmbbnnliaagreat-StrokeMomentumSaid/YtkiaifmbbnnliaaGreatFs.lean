/- The statement StrokeMomentumSaid: for every input the law StrokeMomentum returns true, and each argument reads as it did. No condition. -/
import Derived.Test.YtkiaifmbbnnliaaGreatFr
import Derived.Test.YtkiaifmbbnnliaaGreatRows
import Derived.Test.YtkiaifmbbnnliaaGreatVC
import Derived.WalkKit
import Derived.ProofKit
import Derived.OpenShut
namespace Go.Proofs.YtkiaifmbbnnliaaGreat.strokeMomentum
open Go.ChangeShapes Go.WideShapes Go.ChangeAt Go.RowKit

theorem own : ownKnob Tryz.prog.godebug = none := by kernel_rfl
theorem laid : laidOutB Tryz.prog = true := by kernel_rfl

set_option maxRecDepth 100000 in
theorem lifted (os : Os) (started : os.Started) (H : Type) (enc : TypeId × Value → H) :
    ReturnsInHanded {} Tryz.checked os 5 .any (Rows.strokeMomentumSpec.pre6 enc Tryz.prog Tryz.f5 Rows.strokeMomentumRow.domain false) (Rows.strokeMomentumSpec.post enc Tryz.prog Tryz.f5 false true false false) := by
  refine returnsInHanded_of_change (C := Tryz.checked) own started (by kernel_rfl) Tryz.func5
    (ChangeSpec.witness6 (enc := enc) (C := Tryz.checked) false ⟨#[], #[.agg #[.string ⟨#[]⟩, .int .i64 0, .int .i64 0, .int .i64 0, .slice none 0 0, .int .i64 0, .int .i64 0, .int .i64 0, .int .i64 0, .int .i64 0, .slice none 0 0, .slice none 0 0, .int .i64 0, .int .i64 0], .agg #[.slice none 0 0, .slice none 0 0, .int .i64 0, .int .i64 0, .int .i64 0], .agg #[.int .i64 0, .int .i64 0, .int .i64 0, .int .i64 0, .int .i64 0]], []⟩ 8 (by kernel_rfl) (by kernel_rfl) (by kernel_rfl) (by kernel_rfl)) ?_
  intro W base args ds gs before hval0 hW hcnd _
  exact V.law_contract2 (X := V.X_strokeMomentum) V.X_strokeMomentum_ok (P := Tryz.prog) (by rfl) laid (fn := Tryz.f5) V.cs_strokeMomentum 8 (by rfl) (by kernel_rfl) (by kernel_rfl) Tryz.underlying4
    3 (by kernel_rfl) (fun ds h => by match ds, h with | [_, _, _], _ => rfl) V.strokeMomentum_sat hval0 hW

theorem proved : Rows.StrokeMomentumSaid :=
  OpenClaim.holds_of_wide 5 Tryz.f5 rfl rfl rfl rfl rfl rfl rfl ⟨rfl, rfl, rfl, rfl, rfl⟩ rfl rfl rfl rfl rfl (by kernel_rfl) Tryz.func5 (by kernel_rfl)
    (of_decide_eq_true (by kernel_rfl)) (by unfold Func.isWrapper; first | (rw [if_pos (by decide +kernel)]; kernel_rfl) | (rw [if_neg (by decide +kernel)]; exact ⟨rfl, rfl⟩))
    (fun os started H enc _ => lifted os started H enc)
#print axioms proved
end Go.Proofs.YtkiaifmbbnnliaaGreat.strokeMomentum
