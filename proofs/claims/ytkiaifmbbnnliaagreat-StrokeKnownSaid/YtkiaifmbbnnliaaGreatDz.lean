import Derived.Test.YtkiaifmbbnnliaaGreatDy
import Derived.Test.YtkiaifmbbnnliaaGreatRows
import Derived.Test.YtkiaifmbbnnliaaGreatVC
import Derived.WalkKit
import Derived.ProofKit
import Derived.OpenShut
namespace Go.Proofs.YtkiaifmbbnnliaaGreat.strokeKnown
open Go.ChangeShapes Go.WideShapes Go.ChangeAt Go.RowKit
theorem own : ownKnob Tryz.prog.godebug = none := by kernel_rfl
theorem laid : laidOutB Tryz.prog = true := by kernel_rfl
set_option maxRecDepth 100000 in
theorem lifted (os : Os) (started : os.Started) (H : Type) (enc : TypeId × Value → H) :
    ReturnsInHanded {} Tryz.checked os 12 .any (Rows.strokeKnownSpec.pre6 enc Tryz.prog Tryz.f12 Rows.strokeKnownRow.domain false) (Rows.strokeKnownSpec.post enc Tryz.prog Tryz.f12 false true false false) := by
  refine returnsInHanded_of_change (C := Tryz.checked) own started (by kernel_rfl) Tryz.func12
    (ChangeSpec.witness6 (enc := enc) (C := Tryz.checked) false ⟨#[], #[], []⟩ 8 (by kernel_rfl) (by kernel_rfl) (by kernel_rfl) (by kernel_rfl)) ?_
  intro W base args ds gs before hval0 hW hcnd _
  exact V.law_contract2 (X := V.X_strokeKnown) V.X_strokeKnown_ok (P := Tryz.prog) (by rfl) laid (fn := Tryz.f12) V.cs_strokeKnown 8 (by rfl) (by kernel_rfl) (by kernel_rfl) Tryz.underlying4
    0 (by kernel_rfl) (fun ds h => by match ds, h with | [], _ => rfl) V.strokeKnown_sat hval0 hW
theorem proved : Rows.StrokeKnownSaid :=
  OpenClaim.holds_of_wide 12 Tryz.f12 rfl rfl rfl rfl rfl rfl rfl ⟨rfl, rfl, rfl, rfl, rfl⟩ rfl rfl rfl rfl rfl (by kernel_rfl) Tryz.func12 (by kernel_rfl)
    (of_decide_eq_true (by kernel_rfl)) (by unfold Func.isWrapper; first | (rw [if_pos (by decide +kernel)]; kernel_rfl) | (rw [if_neg (by decide +kernel)]; exact ⟨rfl, rfl⟩))
    (fun os started H enc _ => lifted os started H enc)
#print axioms proved
end Go.Proofs.YtkiaifmbbnnliaaGreat.strokeKnown
