import Derived.Test.YtlangijnealfjaaGreatXk
import Derived.Test.YtlangijnealfjaaGreatRows
import Derived.Test.YtlangijnealfjaaGreatVC
import Derived.WalkKit
import Derived.ProofKit
import Derived.OpenShut
namespace Go.Proofs.YtlangijnealfjaaGreat.topLaidDown
open Go.ChangeShapes Go.WideShapes Go.ChangeAt Go.RowKit
theorem own:ownKnob Tryz.prog.godebug=none:=by kernel_rfl
theorem laid:laidOutB Tryz.prog=true:=by kernel_rfl
set_option maxRecDepth 100000 in
theorem lifted (os:Os) (started:os.Started) (H:Type) (enc:TypeId×Value→H) :
  ReturnsInHanded {} Tryz.checked os 5 .any (Rows.topLaidDownSpec.pre6 enc Tryz.prog Tryz.f5 Rows.topLaidDownRow.domain false) (Rows.topLaidDownSpec.post enc Tryz.prog Tryz.f5 false true false false):=by
 refine returnsInHanded_of_change (C:=Tryz.checked) own started (by kernel_rfl) Tryz.func5
  (ChangeSpec.witness6 (enc:=enc) (C:=Tryz.checked) false ⟨#[],#[.slice none 0 0],[]⟩ 8 (by kernel_rfl) (by kernel_rfl) (by kernel_rfl) (by kernel_rfl)) ?_
 intro W base args ds gs before hval0 hW hcnd _
 exact V.law_contract (X:=V.X_topLaidDown) V.X_topLaidDown_ok (P:=Tryz.prog) (by rfl) laid (fn:=Tryz.f5) V.Tp.cs_topLaidDown 7 (by rfl) (by kernel_rfl) (by kernel_rfl) Tryz.underlying4
  1 (by kernel_rfl) (fun ds h=>by match ds,h with | [_],_=>rfl) V.topLaidDown_sat hval0 hW
theorem proved:Rows.TopLaidDownSaid :=
 OpenClaim.holds_of_wide 5 Tryz.f5 rfl rfl rfl rfl rfl rfl rfl ⟨rfl,rfl,rfl,rfl,rfl⟩ rfl rfl rfl rfl rfl (by kernel_rfl) Tryz.func5 (by kernel_rfl)
  (of_decide_eq_true (by kernel_rfl)) (by unfold Func.isWrapper;first | (rw [if_pos (by decide +kernel)];kernel_rfl) | (rw [if_neg (by decide +kernel)];exact ⟨rfl,rfl⟩))
  (fun os started H enc _=>lifted os started H enc)
#print axioms proved
end Go.Proofs.YtlangijnealfjaaGreat.topLaidDown
