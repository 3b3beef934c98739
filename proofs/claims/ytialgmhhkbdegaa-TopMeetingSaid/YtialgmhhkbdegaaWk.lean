/- The statement TopMeetingSaid: for every input the law TopMeeting returns true, and each argument reads as it did. No condition. -/
import Derived.Test.YtialgmhhkbdegaaWj
import Derived.Test.YtialgmhhkbdegaaRows
import Derived.Test.YtialgmhhkbdegaaVC
import Derived.WalkKit
import Derived.ProofKit
import Derived.OpenShut
namespace Go.Proofs.Ytialgmhhkbdegaa.topMeeting
open Go.ChangeShapes Go.WideShapes Go.ChangeAt Go.RowKit

theorem own : ownKnob Try.prog.godebug = none := by kernel_rfl
theorem laid : laidOutB Try.prog = true := by kernel_rfl

set_option maxRecDepth 100000 in
theorem lifted (os : Os) (started : os.Started) (H : Type) (enc : TypeId × Value → H) :
    ReturnsInHanded {} Try.checked os 5 .any (Rows.topMeetingSpec.pre6 enc Try.prog Try.f5 Rows.topMeetingRow.domain false) (Rows.topMeetingSpec.post enc Try.prog Try.f5 false true false false) := by
  refine returnsInHanded_of_change (C := Try.checked) own started (by kernel_rfl) Try.func5
    (ChangeSpec.witness6 (enc := enc) (C := Try.checked) false ⟨#[], #[.agg #[.int .u16 0, .int .u16 0], .int .i16 0, .int .i16 0, .int .i16 0, .int .i16 0, .int .i16 0, .int .i16 0], []⟩ 8 (by kernel_rfl) (by kernel_rfl) (by kernel_rfl) (by kernel_rfl)) ?_
  intro W base args ds gs before hval0 hW hcnd _
  exact V.law_contract (X := V.X_topMeeting) V.X_topMeeting_ok (P := Try.prog) (by rfl) laid (fn := Try.f5) V.cs_topMeeting 12 (by rfl) (by kernel_rfl) (by kernel_rfl) Try.underlying4
    7 (by kernel_rfl) (fun ds h => by match ds, h with | [_, _, _, _, _, _, _], _ => rfl) V.topMeeting_sat hval0 hW

theorem proved : Rows.TopMeetingSaid :=
  OpenClaim.holds_of_wide 5 Try.f5 rfl rfl rfl rfl rfl rfl rfl ⟨rfl, rfl, rfl, rfl, rfl⟩ rfl rfl rfl rfl rfl (by kernel_rfl) Try.func5 (by kernel_rfl)
    (of_decide_eq_true (by kernel_rfl)) (by unfold Func.isWrapper; first | (rw [if_pos (by decide +kernel)]; kernel_rfl) | (rw [if_neg (by decide +kernel)]; exact ⟨rfl, rfl⟩))
    (fun os started H enc _ => lifted os started H enc)
#print axioms proved
end Go.Proofs.Ytialgmhhkbdegaa.topMeeting
