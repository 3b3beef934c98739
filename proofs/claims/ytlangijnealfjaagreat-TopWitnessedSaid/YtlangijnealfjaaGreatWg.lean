import Derived.Test.YtlangijnealfjaaGreatWf
import Derived.Test.YtlangijnealfjaaGreatRows
import Derived.Test.YtlangijnealfjaaGreatVC
import Derived.WalkKit
import Derived.ProofKit
import Derived.OpenShut
namespace Go.Proofs.YtlangijnealfjaaGreat.topWitnessed
open Go.ChangeShapes Go.WideShapes Go.ChangeAt Go.RowKit
theorem own:ownKnob Tryz.prog.godebug=none:=by kernel_rfl
theorem laid:laidOutB Tryz.prog=true:=by kernel_rfl
set_option maxRecDepth 100000 in
theorem lifted (os:Os) (started:os.Started) (H:Type) (enc:TypeId×Value→H) :
  ReturnsInHanded {} Tryz.checked os 6 .any (Rows.topWitnessedSpec.pre6 enc Tryz.prog Tryz.f6 Rows.topWitnessedRow.domain false) (Rows.topWitnessedSpec.post enc Tryz.prog Tryz.f6 false true false false):=by
 refine returnsInHanded_of_change (C:=Tryz.checked) own started (by kernel_rfl) Tryz.func6
  (ChangeSpec.witness6 (enc:=enc) (C:=Tryz.checked) false ⟨#[],#[.slice none 0 0,.agg #[.int .i16 0,.int .i16 0,.int .u32 0,.int .u8 0],.int .u8 0,.bool false],[]⟩ 8 (by kernel_rfl) (by kernel_rfl) (by kernel_rfl) (by kernel_rfl)) ?_
 intro W base args ds gs before hval0 hW hcnd _
 exact V.law_contract (X:=V.X_topWitnessed) V.X_topWitnessed_ok (P:=Tryz.prog) (by rfl) laid (fn:=Tryz.f6) V.Wi.cs_topWitnessed 9 (by rfl) (by kernel_rfl) (by kernel_rfl) Tryz.underlying4
  4 (by kernel_rfl) (fun ds h=>by match ds,h with | [_,_,_,_],_=>rfl) V.topWitnessed_sat hval0 hW
theorem proved:Rows.TopWitnessedSaid :=
 OpenClaim.holds_of_wide 6 Tryz.f6 rfl rfl rfl rfl rfl rfl rfl ⟨rfl,rfl,rfl,rfl,rfl⟩ rfl rfl rfl rfl rfl (by kernel_rfl) Tryz.func6 (by kernel_rfl)
  (of_decide_eq_true (by kernel_rfl)) (by unfold Func.isWrapper;first | (rw [if_pos (by decide +kernel)];kernel_rfl) | (rw [if_neg (by decide +kernel)];exact ⟨rfl,rfl⟩))
  (fun os started H enc _=>lifted os started H enc)
#print axioms proved
end Go.Proofs.YtlangijnealfjaaGreat.topWitnessed
