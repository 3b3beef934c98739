/- Chapter 11: EventTables: the walk. -/
import Derived.Test.YtgchccljmjmibaaGu
namespace Go.Proofs.Ytgchccljmjmibaa
open Go.RowKit
namespace V
abbrev cs_eventTables : List TC := [cI, .sl Ev.cSc]
namespace Ev
theorem puEt : PuOk Try.prog plEt := puOk_cons is_eCounts.plain q_Counts (puOk_cons is_eTable.plain q_eTable (puOk_cons is_ipl.plain q_ePlaces (puOk_cons is_w16.plain q_Game (puOk_cons is_w12.plain q_fine puOk_nil))))
theorem XEt_ok : CtxOk XEt := ctx_ok mixed puEt fns_nil
noncomputable def s_e0t : St → Tree (XE × St) := loopSum L_e0t E_e0t (finX [.exit 0] st_e0t fu_e0t)
noncomputable def s_e1t : St → Tree (XE × St) := loopSum L_e1t E_e1t (finX [.ret, .exit 2] st_e1t fu_e1t)
noncomputable def s_e2t : St → Tree (XE × St) := loopSum L_e2t E_e2t (finX [.ret, .exit 4] st_e2t fu_e2t)
theorem l_e0t : LoopOk Try.prog nEt (lb_et 0) s_e0t := loopOk_x0 XEt_ok 6 _ L_e0t E_e0t (fun _ => Nat.le_refl _) [.exit 0] st_e0t fu_e0t e_e0t
theorem l_e1t : LoopOk Try.prog nEt (lb_et 1) s_e1t := loopOk_x0 XEt_ok 6 _ L_e1t E_e1t (fun e => by cases e <;> exact Nat.le_refl _) [.ret, .exit 2] st_e1t fu_e1t e_e1t
theorem l_e2t : LoopOk Try.prog nEt (lb_et 2) s_e2t := loopOk_x0 XEt_ok 6 _ L_e2t E_e2t (fun e => by cases e <;> exact Nat.le_refl _) [.ret, .exit 4] st_e2t fu_e2t e_e2t
noncomputable def X_eventTables : Ctx := ctxL Try.prog plEt [(11, Try.f11)] [((nEt, 11), s_e0t), ((nEt, 18), s_e1t), ((nEt, 29), s_e2t)]
theorem X_eventTables_ok : CtxOk X_eventTables := ctxL_ok mixed puEt (fns_cons is_letb fns_nil) (loops_cons (loops_of (ds := [lb_et 0, lb_et 1, lb_et 2]) (by kernel_rfl) ⟨one_key (k := 11) (by kernel_rfl) rfl l_e0t, one_key (k := 18) (by kernel_rfl) rfl l_e1t, one_key (k := 29) (by kernel_rfl) rfl l_e2t, trivial⟩) loops_nil)
def w3_et (y : Option (Left' E_e2t)) : Tree Unit := bif isE .ret y then (bif (valE (E := E_e2t) .ret y).1.1 then .leaf () else .fail) else bif isE (.exit 4) y then .leaf () else .fail
def w2_et (g : R_e1t.T) : Tree Unit := bif g.1.2.2.2.2.2.1 != g.1.2.2.2.2.1 then .fail else bif g.1.2.2.2.2.2.2.1 != 0 then .fail else mkT g.1.1 (w3_et (iter st_e2t ((g.1.1 : Int).toNat + 1) (hd_e2t g.1.1 g.1.2.1 g.1.2.2.1 g.1.2.2.2.1 g.1.2.2.2.2.2.2.2.1 (List.replicate (Int.toNat g.1.1) false) 0)))
def w1_et (y : Option (Left' E_e1t)) : Tree Unit := bif isE .ret y then (bif (valE (E := E_e1t) .ret y).1.1 then .leaf () else .fail) else bif isE (.exit 2) y then w2_et (valE (E := E_e1t) (.exit 2) y) else .fail
def mk8 (n : Int) (k : Tree Unit) : Tree Unit := bif decide (0 ≤ n ∧ n ≤ n ∧ n ≤ 65536 ∧ ((8 : Nat) : Int) * n ≤ 281474976710656) then k else .fail
def w0_et (g : R_e0t.T) : Tree Unit := mk8 g.1.1 (w1_et (iter st_e1t ((g.1.1 : Int).toNat + 1) (hd_e1t g.1.1 g.1.2.1 g.1.2.2.1 g.1.2.2.2.1 g.1.2.2.2.2.1 ⟨g.1.2.2.2.2.2.1, g.1.2.2.2.2.2.2.1, List.replicate (Int.toNat g.1.1) 0⟩ 0)))
def bad_et (n : Int) (l : LSc) : Tree Unit := bif blkV n l == blkV n l then (bif ((tblV n l).length : Int) == 0 then (bif ((plcV n l).length : Int) == 0 then .leaf () else .fail) else .fail) else .fail
def y0_et (n : Int) (l : LSc) : Option (Left' E_e0t) := iter st_e0t ((W64 (Int.tdiv (W64 (n * W64 (n - 1))) 2)).toNat + 1) (hd_e0t n l (tblV n l) (plcV n l) 0 0 0 0)
def T_et (n : Int) (l : LSc) : Tree Unit := bif decide ((l.length : Int) > 60) then .leaf () else bif blkV n l != 0 then bad_et n l else bif blkV n l != 0 then bad_et n l else bif decide (n < 2) then .fail else bif decide (n > 16) then .fail else bif ((tblV n l).length : Int) != n then .fail else bif ((plcV n l).length : Int) != n then .fail else
  bif isE (.exit 0) (y0_et n l) then w0_et (valE (E := E_e0t) (.exit 0) (y0_et n l)) else .fail
end Ev
open Ev
theorem T_et_eq (y : TCTs cs_eventTables) : evFn X_eventTables 7 (.fn nEt) (encAs cs_eventTables y) noHeap 0 lawK = T_et y.1 y.2.1 := by kernel_rfl
end V
end Go.Proofs.Ytgchccljmjmibaa
