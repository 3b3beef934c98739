/- The statement TurfRoundSaid: for every input the law TurfRound returns true, and each argument reads as it did. No condition. -/
import Derived.Test.YthgmpjljlpacgaaQl
import Derived.Test.YthgmpjljlpacgaaVC
import Derived.WalkKit
import Derived.ProofKit
import Derived.OpenShut
namespace Go.Proofs.Ythgmpjljlpacgaa.turfRound
open Go.ChangeShapes Go.WideShapes Go.ChangeAt Go.RowKit

theorem own : ownKnob Try.prog.godebug = none := by kernel_rfl
theorem laid : laidOutB Try.prog = true := by kernel_rfl

set_option maxRecDepth 100000 in
theorem lifted (os : Os) (started : os.Started) (H : Type) (enc : TypeId × Value → H) :
    ReturnsInHanded {} Try.checked os 12 .any (Rows.turfRoundSpec.pre6 enc Try.prog Try.f12 Rows.turfRoundRow.domain false) (Rows.turfRoundSpec.post enc Try.prog Try.f12 false true false false) := by
  refine returnsInHanded_of_change (C := Try.checked) own started (by kernel_rfl) Try.func12
    (ChangeSpec.witness6 (enc := enc) (C := Try.checked) false ⟨#[], #[.agg #[.int .i16 0, .int .i16 0], .agg #[.int .i16 0, .int .i16 0], .agg #[.int .i16 0, .int .i16 0], .int .u8 0, .int .u16 0], []⟩ 8 (by kernel_rfl) (by kernel_rfl) (by kernel_rfl) (by kernel_rfl)) ?_
  intro W base args ds gs before hval0 hW hcnd _
  exact V.law_contract (X := V.X_turfRound) V.X_turfRound_ok (P := Try.prog) (by rfl) laid (fn := Try.f12) V.cs_turfRound 8 (by rfl) (by kernel_rfl) (by kernel_rfl) Try.underlying4
    5 (by kernel_rfl) (fun ds h => by match ds, h with | [_, _, _, _, _], _ => rfl) V.turfRound_sat hval0 hW

theorem proved : Rows.TurfRoundSaid :=
  OpenClaim.holds_of_wide 12 Try.f12 rfl rfl rfl rfl rfl rfl rfl ⟨rfl, rfl, rfl, rfl, rfl⟩ rfl rfl rfl rfl rfl (by kernel_rfl) Try.func12 (by kernel_rfl)
    (of_decide_eq_true (by kernel_rfl)) (by unfold Func.isWrapper; first | (rw [if_pos (by decide +kernel)]; kernel_rfl) | (rw [if_neg (by decide +kernel)]; exact ⟨rfl, rfl⟩))
    (fun os started H enc _ => lifted os started H enc)
#print axioms proved
end Go.Proofs.Ythgmpjljlpacgaa.turfRound
