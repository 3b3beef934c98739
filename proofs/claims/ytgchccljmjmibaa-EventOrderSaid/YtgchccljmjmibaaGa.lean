/- Chapter 11: the sheets that count, as a map of the caller's own. -/
import Derived.Test.YtgchccljmjmibaaEg
namespace Go.Proofs.Ytgchccljmjmibaa
open Go.RowKit
namespace V
namespace Ev
def probeN (_ : Heap) (_ : List AV) : Option (List Nat) := some []
def FL_ct : FLay := { ks := [.d (.sl cSc)], bs := [], nx := 0 }
def FE_ct : Bool → FLay := fun _ => { ks := [.q 1], bs := [(1, 0, [.m cI cSc])], nx := 2 }
def fin_ct (g : FL_ct.T) : Tree (LeftF FE_ct) := .leaf ⟨true, (((), ()), ((cntM g.1.1, ()), ()))⟩
noncomputable def X_ct : Ctx := ctxL Try.prog plCo [(65, Try.f65)] [((65, 4), loopSum (L_co 0) (E_co 0) (finX [.exit 0] st_co0 fu_co0))]
theorem X_ct_ok : CtxOk X_ct := ctxL_ok mixed puCo (fns_cons is_cnt fns_nil) (loops_cons (loops_of (ds := [lb_co]) (by kernel_rfl) ⟨one_key (k := 4) (by kernel_rfl) rfl l_co0, trivial⟩) loops_nil)
def T_ct (y : Option (Left' (E_co 0))) : Tree (LeftF FE_ct) := bif isE (.exit 0) y then .leaf ⟨true, (((), ()), (((valE (.exit 0) y).2.1.1, ()), ()))⟩ else .fail
theorem T_ct_eq (l : List (TCT cSc)) : evBody X_ct (evFn X_ct 6) 65 (ofKs FL_ct.ks (l, ()) FL_ct.nx) (FL_ct.lay.hp ((l, ()), ())) (FL_ct.lay.of ((l, ()), ())).nx (foutK FE_ct) = T_ct (iter st_co0 (l.length + 1) (hd_co0 l l.length 0 (fun _ => none))) := by kernel_rfl
theorem sp_cnt : SpecOk Try.prog 65 (fspec probeN FL_ct FE_ct fin_ct) := by
  refine fspec_ok (X := X_ct) (L := FL_ct) (E := FE_ct) (fin := fin_ct) X_ct_ok 6 (fun _ => Nat.zero_le 2) fun g R hw hf => ?_
  obtain ⟨⟨l, ⟨⟩⟩, ⟨⟩⟩ := g
  rw [T_ct_eq l, co_run (st := st_co0) (hd_co0 l l.length) ex_co0 l hw.1.1.1 (fun _ _ => rfl)]
  exact fun _ => hf
end Ev
end V
end Go.Proofs.Ytgchccljmjmibaa
