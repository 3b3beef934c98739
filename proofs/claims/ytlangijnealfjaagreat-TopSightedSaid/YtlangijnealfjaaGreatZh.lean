import Derived.Test.YtlangijnealfjaaGreatZg
import Derived.Test.YtlangijnealfjaaGreatRows
import Derived.Test.YtlangijnealfjaaGreatVC
import Derived.WalkKit
import Derived.ProofKit
import Derived.OpenShut
namespace Go.Proofs.YtlangijnealfjaaGreat.topSighted
open Go.ChangeShapes Go.WideShapes Go.ChangeAt Go.RowKit
theorem own:ownKnob Tryz.prog.godebug=none:=by kernel_rfl
theorem laid:laidOutB Tryz.prog=true:=by kernel_rfl
set_option maxRecDepth 100000 in
theorem lifted (os:Os) (started:os.Started) (H:Type) (enc:TypeId×Value→H) :
  ReturnsInHanded {} Tryz.checked os 3 .any (Rows.topSightedSpec.pre6 enc Tryz.prog Tryz.f3 Rows.topSightedRow.domain false) (Rows.topSightedSpec.post enc Tryz.prog Tryz.f3 false true false false):=by
 refine returnsInHanded_of_change (C:=Tryz.checked) own started (by kernel_rfl) Tryz.func3
  (ChangeSpec.witness6 (enc:=enc) (C:=Tryz.checked) false ⟨#[],#[.agg #[.int .u16 0,.int .u16 0],.agg #[.int .u16 0,.int .u16 0],.agg #[.int .u16 0,.int .u16 0],.bool false],[]⟩ 8 (by kernel_rfl) (by kernel_rfl) (by kernel_rfl) (by kernel_rfl)) ?_
 intro W base args ds gs before hval0 hW hcnd _
 exact V.law_contract (X:=V.X_topSighted) V.X_topSighted_ok (P:=Tryz.prog) (by rfl) laid (fn:=Tryz.f3) V.Tp.cs_topSighted 7 (by rfl) (by kernel_rfl) (by kernel_rfl) Tryz.underlying4
  4 (by kernel_rfl) (fun ds h=>by match ds,h with | [_,_,_,_],_=>rfl) V.topSighted_sat hval0 hW
theorem proved:Rows.TopSightedSaid :=
 OpenClaim.holds_of_wide 3 Tryz.f3 rfl rfl rfl rfl rfl rfl rfl ⟨rfl,rfl,rfl,rfl,rfl⟩ rfl rfl rfl rfl rfl (by kernel_rfl) Tryz.func3 (by kernel_rfl)
  (of_decide_eq_true (by kernel_rfl)) (by unfold Func.isWrapper;first | (rw [if_pos (by decide +kernel)];kernel_rfl) | (rw [if_neg (by decide +kernel)];exact ⟨rfl,rfl⟩))
  (fun os started H enc _=>lifted os started H enc)
#print axioms proved
end Go.Proofs.YtlangijnealfjaaGreat.topSighted
