import Derived.Test.YtlangijnealfjaaGreatZt
import Derived.Test.YtlangijnealfjaaGreatRows
import Derived.Test.YtlangijnealfjaaGreatVC
import Derived.WalkKit
import Derived.ProofKit
import Derived.OpenShut
namespace Go.Proofs.YtlangijnealfjaaGreat.topSeen
open Go.ChangeShapes Go.WideShapes Go.ChangeAt Go.RowKit
theorem own:ownKnob Tryz.prog.godebug=none:=by kernel_rfl
theorem laid:laidOutB Tryz.prog=true:=by kernel_rfl
set_option maxRecDepth 100000 in
theorem lifted (os:Os) (started:os.Started) (H:Type) (enc:TypeId×Value→H) :
  ReturnsInHanded {} Tryz.checked os 4 .any (Rows.topSeenSpec.pre6 enc Tryz.prog Tryz.f4 Rows.topSeenRow.domain false) (Rows.topSeenSpec.post enc Tryz.prog Tryz.f4 false true false false):=by
 refine returnsInHanded_of_change (C:=Tryz.checked) own started (by kernel_rfl) Tryz.func4
  (ChangeSpec.witness6 (enc:=enc) (C:=Tryz.checked) false ⟨#[],#[.agg #[.int .u16 0,.int .u16 0],.agg #[.int .u16 0,.int .u16 0],.agg #[.int .u16 0,.int .u16 0],.bool false],[]⟩ 8 (by kernel_rfl) (by kernel_rfl) (by kernel_rfl) (by kernel_rfl)) ?_
 intro W base args ds gs before hval0 hW hcnd _
 exact V.law_contract (X:=V.X_topSeen) V.X_topSeen_ok (P:=Tryz.prog) (by rfl) laid (fn:=Tryz.f4) V.Tp.cs_topSeen 7 (by rfl) (by kernel_rfl) (by kernel_rfl) Tryz.underlying4
  4 (by kernel_rfl) (fun ds h=>by match ds,h with | [_,_,_,_],_=>rfl) V.topSeen_sat hval0 hW
theorem proved:Rows.TopSeenSaid :=
 OpenClaim.holds_of_wide 4 Tryz.f4 rfl rfl rfl rfl rfl rfl rfl ⟨rfl,rfl,rfl,rfl,rfl⟩ rfl rfl rfl rfl rfl (by kernel_rfl) Tryz.func4 (by kernel_rfl)
  (of_decide_eq_true (by kernel_rfl)) (by unfold Func.isWrapper;first | (rw [if_pos (by decide +kernel)];kernel_rfl) | (rw [if_neg (by decide +kernel)];exact ⟨rfl,rfl⟩))
  (fun os started H enc _=>lifted os started H enc)
#print axioms proved
end Go.Proofs.YtlangijnealfjaaGreat.topSeen
