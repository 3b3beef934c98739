/- The law ContactSteps: for all arguments it returns true. -/
import Derived.Test.YtmmhbianajpdgaaOb
import Derived.Test.YtmmhbianajpdgaaUj
namespace Go.Proofs.Ytmmhbianajpdgaa
open Go.RowKit
namespace V
theorem is_ContactSteps : FnIs Try.prog (9, Try.f9) := ⟨Try.func9, by kernel_rfl, by kernel_rfl⟩
def plP : List (Nat × PureT) := (32, s_CheckBall) :: (33, s_CheckBall) :: (21, s_CheckBounce) :: (17, s_CheckMotion) :: (31, s_Step) :: (19, s_Tick) :: (35, s_Tick) :: (36, s_Slow) :: (37, s_Slow) :: plL
theorem puP : PuOk Try.prog plP := puOk_cons is_CheckBall.plain q_CheckBall (puOk_cons is_rCheckBall.plain q_rCheckBall (puOk_cons is_rCheckBounce.plain q_rCheckBounce (puOk_cons is_rCheckMotion.plain q_rCheckMotion (puOk_cons is_rStep.plain q_rStep (puOk_cons is_Tick.plain q_Tick (puOk_cons is_rTick.plain q_rTick (puOk_cons is_Slow.plain q_Slow (puOk_cons is_rSlow.plain q_rSlow puL))))))))
noncomputable def X_contactSteps : Ctx := ctx Try.prog plP [(9, Try.f9)]
theorem X_contactSteps_ok : CtxOk X_contactSteps := ctx_ok mixed puP (fns_cons is_ContactSteps fns_nil)
def T_steps1 (a b c : Bool) (u v : RMot) (p : TCTs [cPt, cI]) : Tree Unit :=
  bif okE a != okE a then .fail else bif okE b != okE b then .fail else bif okE c != okE c then .fail else bif !eqM u.1 u.1 then .fail else bif u.2.1 != u.2.1 then .fail else
  bif eqM v.1 v.1 then bif v.2.1 == v.2.1 then bif eqP p.1 p.1 then bif p.2.1 == p.2.1 then .leaf () else .fail else .fail else .fail else .fail
theorem T_steps1_ok (a b c : Bool) (u v : RMot) (p : TCTs [cPt, cI]) : (T_steps1 a b c u v p).sat (fun _ => True) := by
  unfold T_steps1
  simp only [eqP_self, eqM_self, beq_self_eq_true, bne_self_eq_false, Bool.not_true, cond_true, cond_false]
  trivial
def T_stepsL (n : Int) (t : Tree Unit) : Tree Unit := bif decide (n > 20) then bif decide (n ≤ 1000) then .leaf () else t else t
theorem T_stepsL_ok (n : Int) (t : Tree Unit) (h : t.sat (fun _ => True)) : (T_stepsL n t).sat (fun _ => True) := by
  unfold T_stepsL
  cases decide (n > 20) with
  | false => exact h
  | true => cases decide (n ≤ 1000) with
    | false => exact h
    | true => trivial
abbrev cs_contactSteps : List TC := [cBall, cMot, cBnc, cI, cPt, cI]
def TY_steps (y : TCTs cs_contactSteps) : Tree Unit :=
  T_stepsL y.2.2.2.1 (T_steps1 (ballB y.1.1 y.1.2.1) (bm y.1 y.2.1).ok (bncB y.2.2.1.1 y.2.2.1.2.1) (StepR (bm y.1 y.2.1)) (TickR y.2.2.2.1 (bm y.1 y.2.1)) (SlowR y.2.2.2.2.1.1 y.2.2.2.2.1.2.1 y.2.2.2.2.2.1))
theorem TY_steps_ok (y : TCTs cs_contactSteps) (_ : WFDs cs_contactSteps y) : (TY_steps y).sat (fun _ => True) := T_stepsL_ok _ _ (T_steps1_ok _ _ _ _ _ _)
theorem TY_steps_eq (y : TCTs cs_contactSteps) : evFn X_contactSteps 8 (.fn 9) (encAs cs_contactSteps y) noHeap 0 lawK = TY_steps y := by kernel_rfl
theorem contactSteps_sat : LawSat X_contactSteps 9 cs_contactSteps 8 := lawSat 8 TY_steps TY_steps_eq TY_steps_ok
end V
end Go.Proofs.Ytmmhbianajpdgaa
