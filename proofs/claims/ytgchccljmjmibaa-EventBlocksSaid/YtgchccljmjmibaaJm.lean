/- The statement EventBlocksSaid: for every input the law EventBlocks returns true, and each argument reads as it did. No condition. -/
import Derived.Test.YtgchccljmjmibaaJkg
import Derived.Test.YtgchccljmjmibaaRows
import Derived.Test.YtgchccljmjmibaaVC
import Derived.WalkKit
import Derived.ProofKit
import Derived.OpenShut
namespace Go.Proofs.Ytgchccljmjmibaa.eventBlocks
open Go.ChangeShapes Go.WideShapes Go.ChangeAt Go.RowKit

theorem own : ownKnob Try.prog.godebug = none := by kernel_rfl
theorem laid : laidOutB Try.prog = true := by kernel_rfl

set_option maxRecDepth 100000 in
theorem lifted (os : Os) (started : os.Started) (H : Type) (enc : TypeId × Value → H) :
    ReturnsInHanded {} Try.checked os 12 .any (Rows.eventBlocksSpec.pre6 enc Try.prog Try.f12 Rows.eventBlocksRow.domain false) (Rows.eventBlocksSpec.post enc Try.prog Try.f12 false true false false) := by
  refine returnsInHanded_of_change (C := Try.checked) own started (by kernel_rfl) Try.func12
    (ChangeSpec.witness6 (enc := enc) (C := Try.checked) false ⟨#[], #[.int .i64 0, .slice none 0 0, .int .i64 0, .int .i64 0], []⟩ 8 (by kernel_rfl) (by kernel_rfl) (by kernel_rfl) (by kernel_rfl)) ?_
  intro W base args ds gs before hval0 hW hcnd _
  exact V.law_contract (X := V.X_eventBlocks) V.X_eventBlocks_ok (P := Try.prog) (by rfl) laid (fn := Try.f12) V.cs_eventBlocks 7 (by rfl) (by kernel_rfl) (by kernel_rfl) Try.underlying4
    4 (by kernel_rfl) (fun ds h => by match ds, h with | [_, _, _, _], _ => rfl) V.eventBlocks_sat hval0 hW

theorem proved : Rows.EventBlocksSaid :=
  OpenClaim.holds_of_wide 12 Try.f12 rfl rfl rfl rfl rfl rfl rfl ⟨rfl, rfl, rfl, rfl, rfl⟩ rfl rfl rfl rfl rfl (by kernel_rfl) Try.func12 (by kernel_rfl)
    (of_decide_eq_true (by kernel_rfl)) (by unfold Func.isWrapper; first | (rw [if_pos (by decide +kernel)]; kernel_rfl) | (rw [if_neg (by decide +kernel)]; exact ⟨rfl, rfl⟩))
    (fun os started H enc _ => lifted os started H enc)
#print axioms proved
end Go.Proofs.Ytgchccljmjmibaa.eventBlocks
