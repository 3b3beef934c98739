import Derived.Test.YtcfanlgpkefogaaGreatYn
import Derived.Test.YtcfanlgpkefogaaGreatRows
import Derived.Test.YtcfanlgpkefogaaGreatVC
import Derived.WalkKit
import Derived.ProofKit
import Derived.OpenShut
namespace Go.Proofs.YtcfanlgpkefogaaGreat.topReturned
open Go.ChangeShapes Go.WideShapes Go.ChangeAt Go.RowKit
theorem own:ownKnob Tryz.prog.godebug=none:=by kernel_rfl
theorem laid:laidOutB Tryz.prog=true:=by kernel_rfl
set_option maxRecDepth 100000 in
theorem lifted (os:Os) (started:os.Started) (H:Type) (enc:TypeId×Value→H) :
  ReturnsInHanded {} Tryz.checked os 8 .any (Rows.topReturnedSpec.pre6 enc Tryz.prog Tryz.f8 Rows.topReturnedRow.domain false) (Rows.topReturnedSpec.post enc Tryz.prog Tryz.f8 false true false false):=by
 refine returnsInHanded_of_change (C:=Tryz.checked) own started (by kernel_rfl) Tryz.func8
  (ChangeSpec.witness6 (enc:=enc) (C:=Tryz.checked) false ⟨#[],#[.slice none 0 0,.agg #[.int .i16 0,.int .i16 0,.int .u32 0,.int .u8 0],.int .u8 0],[]⟩ 8 (by kernel_rfl) (by kernel_rfl) (by kernel_rfl) (by kernel_rfl)) ?_
 intro W base args ds gs before hval0 hW hcnd _
 exact V.law_contract (X:=V.X_topReturned) V.X_topReturned_ok (P:=Tryz.prog) (by rfl) laid (fn:=Tryz.f8) V.Tp.cs_topReturned 10 (by rfl) (by kernel_rfl) (by kernel_rfl) Tryz.underlying4
  3 (by kernel_rfl) (fun ds h=>by match ds,h with | [_,_,_],_=>rfl) V.topReturned_sat hval0 hW
theorem proved:Rows.TopReturnedSaid :=
 OpenClaim.holds_of_wide 8 Tryz.f8 rfl rfl rfl rfl rfl rfl rfl ⟨rfl,rfl,rfl,rfl,rfl⟩ rfl rfl rfl rfl rfl (by kernel_rfl) Tryz.func8 (by kernel_rfl)
  (of_decide_eq_true (by kernel_rfl)) (by unfold Func.isWrapper;first | (rw [if_pos (by decide +kernel)];kernel_rfl) | (rw [if_neg (by decide +kernel)];exact ⟨rfl,rfl⟩))
  (fun os started H enc _=>lifted os started H enc)
#print axioms proved
end Go.Proofs.YtcfanlgpkefogaaGreat.topReturned
