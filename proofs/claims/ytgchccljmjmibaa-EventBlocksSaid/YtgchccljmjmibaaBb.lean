/- fine() by walking. -/
import Derived.Test.YtgchccljmjmibaaBag
namespace Go.Proofs.Ytgchccljmjmibaa
open Go.RowKit
namespace V
noncomputable abbrev s_fine : PureT := spec [] [.b] (fun _ => true) (fun _ => (true, ()))
set_option maxRecDepth 100000 in
theorem q_fine : PureOk Try.prog 15 s_fine := q_leaf (ctxU_ok (u := 200) mixed puOk_nil allF_ok) 60 (fun _ => by kernel_rfl)
end V
end Go.Proofs.Ytgchccljmjmibaa
