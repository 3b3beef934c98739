/- Chapter 4: the law StrokeGrounds. -/
import Derived.Test.YtkiaifmbbnnliaaGreatCA
namespace Go.Proofs.YtkiaifmbbnnliaaGreat
open Go.RowKit
namespace V
namespace St
theorem is_StrokeGrounds : FnIs Tryz.prog (6, Tryz.f6) := ⟨Tryz.func6, by kernel_rfl, by kernel_rfl⟩
theorem is_l4great : FnIs Tryz.prog (14, Tryz.f14) := ⟨Tryz.func14, by kernel_rfl, by kernel_rfl⟩
noncomputable def plGd : List (Nat × PureT) := (15, s_Works) :: (18, s_Same) :: (28, s_Lie) :: (29, s_Lie) :: (33, s_Still) :: (34, s_Still) :: (23, s_Tot) :: (35, s_Tot) :: plS3
theorem puGd : PuOk Tryz.prog plGd := puOk_cons is_Works4.plain q_Works4 (puOk_cons is_lSame.plain q_Same (puOk_cons is_sLie.plain q_Lie (puOk_cons is_rLie.plain q_rLie (puOk_cons is_sStill.plain q_Still (puOk_cons is_rStill.plain q_rStill (puOk_cons is_sTotal.plain q_sTotal (puOk_cons is_r4Total.plain q_r4Total puS3)))))))
def lfU : Tree Unit := .leaf ()
/-- a ground or a state is too large for a statement -/
def gr_T (g : TCT cGr) (s : TCT cSt) (yes k : Tree Unit) : Tree Unit :=
  bif inKB .i64 (g.1.1.size : Int) then bif decide ((g.1.1.size : Int) > 100) then yes else bif decide (((hoopsL g.1).length : Int) > 20) then yes else bif decide (((cellsL g.1).length : Int) > 300) then yes else
  bif decide (((ballsG g).length : Int) > 5) then bif decide (((ballsG g).length : Int) ≤ 8) then yes else bif decide (((ballsG g).length : Int) > 12) then yes else bif decide (((msT s).length : Int) > 12) then yes else bif decide (((osT s).length : Int) > 12) then yes else k
  else bif decide (((ballsG g).length : Int) > 12) then yes else bif decide (((msT s).length : Int) > 12) then yes else bif decide (((osT s).length : Int) > 12) then yes else k else .fail
theorem gr_T_ok {g : TCT cGr} {s : TCT cSt} {yes k : Tree Unit} {R : Unit → Prop} (hs : (g.1.1.size : Int) ≤ maxK .i64) (hy : yes.sat R) (hk : (msT s).length ≤ 12 → (osT s).length ≤ 12 → k.sat R) : (gr_T g s yes k).sat R := by
  unfold gr_T
  have h0 : inKB .i64 (g.1.1.size : Int) = true := by
    unfold inKB
    have : (g.1.1.size : Int) ≤ 9223372036854775807 := hs
    simp only [Bool.and_eq_true, decide_eq_true_eq]
    exact ⟨by show (-9223372036854775808 : Int) ≤ _; omega, hs⟩
  rw [h0, cond_true]
  cases decide ((g.1.1.size : Int) > 100) with
  | true => exact hy
  | false =>
  cases decide (((hoopsL g.1).length : Int) > 20) with
  | true => exact hy
  | false =>
  cases decide (((cellsL g.1).length : Int) > 300) with
  | true => exact hy
  | false =>
  have last : (bif decide (((ballsG g).length : Int) > 12) then yes else bif decide (((msT s).length : Int) > 12) then yes else bif decide (((osT s).length : Int) > 12) then yes else k : Tree Unit).sat R := by
    cases decide (((ballsG g).length : Int) > 12) with
    | true => exact hy
    | false =>
    cases h1 : decide (((msT s).length : Int) > 12) with
    | true => exact hy
    | false =>
    cases h2 : decide (((osT s).length : Int) > 12) with
    | true => exact hy
    | false =>
      have a := of_decide_eq_false h1
      have b := of_decide_eq_false h2
      exact hk (by omega) (by omega)
  simp only [cond_false]
  cases decide (((ballsG g).length : Int) > 5) with
  | false => exact last
  | true =>
  cases decide (((ballsG g).length : Int) ≤ 8) with
  | true => exact hy
  | false => exact last
noncomputable def gd_T (z : Bool) (ge se le : Int) (st : Bool) (t1 t2 : Int) (x : TCT cSt) : Tree Unit :=
  bif z then bif z then bif z then bif z then bif ge != ge then .fail else bif z then bif z then bif se != se then .fail else bif le != le then .fail else bif eqC x x then bif z then bif z then bif z then bif z then
  bif st == st then bif se == se then bif t1 == t1 && (t2 == t2 && true) then bif se == se then lfU else .fail else .fail else .fail else .fail else .fail else .fail else .fail else .fail else .fail else .fail else .fail else .fail else .fail else .fail else .fail
theorem gd_T_ok {z : Bool} {ge se le : Int} {st : Bool} {t1 t2 : Int} {x : TCT cSt} (h : z = true) : (gd_T z ge se le st t1 t2 x).sat (fun _ => True) := by
  subst h
  unfold gd_T
  simp only [bne_self_eq_false, beq_self_eq_true, eqC_t rfl, cond_true, cond_false, Bool.and_self]
  trivial
noncomputable def T_gd (g : TCT cGr) (s : TCT cSt) (p : List (TCT cPt)) : Tree Unit := gr_T g s lfU (bif decide ((p.length : Int) > 12) then lfU else
  gd_T (decide ((g.1.1.size : Int) ≤ maxK .i64)) (groE g) (staE g s) (lieV g p).2.1 (bif staE g s != 0 then false else stillB s) (totR g s).1 (totR g s).2.1 (etaS (lieV g p).1))
end St
open St
abbrev cs_strokeGrounds : List TC := [cGr, cSt, .sl cPt]
noncomputable def X_strokeGrounds : Ctx := ctx Tryz.prog plGd [(6, Tryz.f6), (14, Tryz.f14)]
theorem X_strokeGrounds_ok : CtxOk X_strokeGrounds := ctx_ok mixed puGd (fns_cons is_StrokeGrounds (fns_cons is_l4great fns_nil))
theorem gd_all {g : TCT cGr} {s : TCT cSt} {p : List (TCT cPt)} (hs : (g.1.1.size : Int) ≤ maxK .i64) : (T_gd g s p).sat (fun _ => True) := by
  refine gr_T_ok hs trivial fun _ _ => ?_
  cases decide ((p.length : Int) > 12) with
  | true => exact trivial
  | false => exact gd_T_ok (decide_eq_true hs)
theorem strokeGrounds_sat : LawSat2 X_strokeGrounds 6 cs_strokeGrounds 8 := lawSat2 8 (fun y => T_gd y.1 y.2.1 y.2.2.1) (fun y => by kernel_rfl) fun _ _ hs => gd_all hs.1.1.1
end V
end Go.Proofs.YtkiaifmbbnnliaaGreat
