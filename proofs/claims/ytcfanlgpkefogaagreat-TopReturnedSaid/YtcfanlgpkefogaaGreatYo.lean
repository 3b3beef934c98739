import Derived.Test.YtcfanlgpkefogaaGreatYn
import Derived.Test.YtcfanlgpkefogaaGreatRows
import Derived.Test.YtcfanlgpkefogaaGreatVC
import Derived.WalkKit
import Derived.ProofKit
import Derived.OpenShut
namespace Go.Proofs.YtcfanlgpkefogaaGreat.topReturned
open Go.ChangeShapes Go.WideShapes Go.ChangeAt Go.RowKit
theorem own:ownKnob Tryz.prog.godebug=none:=by kernel_rfl
theorem laid:laidOutB Tryz.prog=true:=by kernel_rfl
#print axioms proved
end Go.Proofs.YtcfanlgpkefogaaGreat.topReturned
