/- Chapter 11: places: the sort: its step walked. -/
import Derived.Test.YtgchccljmjmibaaGl
namespace Go.Proofs.Ytgchccljmjmibaa
open Go.RowKit
namespace V
namespace Ev
theorem e_d1 (g : L_d1.T) : evC Try.prog (evFn XD1 6) XD1.pures nPd XD1.u (fun _ => none) lb_pd (L_d1.of g) (stepOut L_d1 E_d1) = st_d1 g := by kernel_rfl
theorem XD1_ok0 : CtxOk (ctxS Try.prog plPd fnPd loPd [(82, fspec probeC FL_cp FE_cp fin_cp), (nCv, fspecK 2 probeV FL_cv FE_cv fin_cv)]) := ctxS_ok mixed (puOk_cons is_bLen.plain q_bl puOk_nil) (fns_cons is_ipdq (fns_cons is_isort (fns_cons is_ibp (fns_cons is_ipis (fns_cons is_ipart (fns_cons is_inp2 fns_nil))))))
  (loops_cons (loops_of (ds := [lb_pd]) (by kernel_rfl) ⟨one_key (k := 2) (by kernel_rfl) rfl l_d0, trivial⟩)
  (loops_cons (loops_of (ds := [lb_is 0, lb_is 1]) (by kernel_rfl) ⟨one_key (k := 1) (by kernel_rfl) rfl l_i0, no_key (k := 4) (by kernel_rfl) rfl, trivial⟩)
  (loops_cons (loops_of (ds := [lb_bp]) (by kernel_rfl) ⟨one_key (k := 5) (by kernel_rfl) rfl l_bp, trivial⟩)
  (loops_cons (loops_of (ds := [lb_pi 0, lb_pi 1, lb_pi 2, lb_pi 3]) (by kernel_rfl) ⟨one_key (k := 3) (by kernel_rfl) rfl l_q0, no_key (k := 5) (by kernel_rfl) rfl, no_key (k := 14) (by kernel_rfl) rfl, no_key (k := 20) (by kernel_rfl) rfl, trivial⟩)
  (loops_cons (loops_of (ds := [lb_pt 0, lb_pt 1, lb_pt 2, lb_pt 3, lb_pt 4]) (by kernel_rfl) ⟨one_key (k := 3) (by kernel_rfl) rfl l_p0, one_key (k := 5) (by kernel_rfl) rfl l_p1, one_key (k := 1013) (by kernel_rfl) rfl l_p2, no_key (k := 13) (by kernel_rfl) rfl, no_key (k := 15) (by kernel_rfl) rfl, trivial⟩)
  (loops_cons (loops_none (by kernel_rfl)) loops_nil)))))) spCv
theorem XD1_ok : CtxOk XD1 := ⟨XD1_ok0.mix, XD1_ok0.pures, XD1_ok0.fns, XD1_ok0.specs⟩
end Ev
end V
end Go.Proofs.Ytgchccljmjmibaa
