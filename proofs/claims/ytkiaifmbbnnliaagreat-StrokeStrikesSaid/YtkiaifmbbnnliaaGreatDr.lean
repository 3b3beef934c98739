import Derived.Test.YtkiaifmbbnnliaaGreatCq
import Derived.Test.YtkiaifmbbnnliaaGreatDq
namespace Go.Proofs.YtkiaifmbbnnliaaGreat
open Go.RowKit
namespace V
namespace St
theorem is_StrokeStrikes : FnIs Tryz.prog (3, Tryz.f3) := ⟨Tryz.func3, by kernel_rfl, by kernel_rfl⟩
abbrev FStr : Type := TCT cGr → TCT cSt → TCT cBw → TkR
abbrev s_StrF (F : FStr) : PureT := spec [cGr, cSt, cBw] [cSt, .sl cKn, cI] (fun x => decide ((x.1.1.1.size : Int) ≤ maxK .i64)) (fun x => etaR (F x.1 x.2.1 x.2.2.1))
noncomputable def plSs (F : FStr) : List (Nat × PureT) := (15, s_Works) :: (18, s_Same) :: (19, s_smK) :: (16, s_StrF F) :: (17, s_StrF F) :: []
theorem puSs : PuOk Tryz.prog (plSs skV) := puOk_cons is_Works4.plain q_Works4 (puOk_cons is_lSame.plain q_Same (puOk_cons is_smK.plain q_smK (puOk_cons is_sStrike.plain q_Strike4 (puOk_cons is_rStrike4.plain q_rStrike4 puOk_nil))))
noncomputable def ss_T (z : Bool) (e : Int) (x : TCT cSt) (k : Kns) : Tree Unit :=
  bif z then bif z then bif e == e then bif eqC x x then bif eqC k k then lfU else .fail else .fail else .fail else .fail else .fail
theorem ss_T_ok {z : Bool} {e : Int} {x : TCT cSt} {k : Kns} (h : z = true) : (ss_T z e x k).sat (fun _ => True) := by
  subst h
  unfold ss_T
  simp only [beq_self_eq_true, eqC_t rfl, cond_true]
  trivial
noncomputable def T_ssL (F : FStr) (g : TCT cGr) (s : TCT cSt) (w : TCT cBw) : Tree Unit := gr_T g s lfU (
  ss_T (decide ((g.1.1.size : Int) ≤ maxK .i64)) (F g s w).2.2.1 (etaS (F g s w).1) (F g s w).2.1)
end St
open St
abbrev cs_strokeStrikes : List TC := [cGr, cSt, cBw]
noncomputable def X_strokeStrikesF (F : FStr) : Ctx := ctx Tryz.prog (plSs F) [(3, Tryz.f3), (14, Tryz.f14)]
noncomputable def X_strokeStrikes : Ctx := X_strokeStrikesF skV
theorem X_strokeStrikes_ok : CtxOk X_strokeStrikes := ctx_ok mixed puSs (fns_cons is_StrokeStrikes (fns_cons is_l4great fns_nil))
theorem ssL_all {g : TCT cGr} {s : TCT cSt} {w : TCT cBw} (hs : (g.1.1.size : Int) ≤ maxK .i64) : (T_ssL skV g s w).sat (fun _ => True) :=
  gr_T_ok hs trivial fun _ _ => ss_T_ok (decide_eq_true hs)
theorem ssL_eq (F : FStr) (y : TCTs cs_strokeStrikes) : evFn (X_strokeStrikesF F) 8 (.fn 3) (encAs cs_strokeStrikes y) noHeap 0 lawK = T_ssL F y.1 y.2.1 y.2.2.1 := by kernel_rfl
theorem strokeStrikes_sat : LawSat2 X_strokeStrikes 3 cs_strokeStrikes 8 := lawSat2 8 (fun y => T_ssL skV y.1 y.2.1 y.2.2.1) (ssL_eq skV) fun _ _ hs => ssL_all hs.1.1.1
end V
end Go.Proofs.YtkiaifmbbnnliaaGreat
