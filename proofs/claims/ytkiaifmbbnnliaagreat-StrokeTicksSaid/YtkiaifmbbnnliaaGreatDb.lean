import Derived.Test.YtkiaifmbbnnliaaGreatCq
import Derived.Test.YtkiaifmbbnnliaaGreatDa
namespace Go.Proofs.YtkiaifmbbnnliaaGreat
open Go.RowKit
namespace V
namespace St
theorem is_StrokeTicks : FnIs Tryz.prog (4, Tryz.f4) := ⟨Tryz.func4, by kernel_rfl, by kernel_rfl⟩
abbrev s_TickF (F : TCT cGr → TCT cSt → TkR) : PureT := spec [cGr, cSt] [cSt, .sl cKn, cI] (fun x => decide ((x.1.1.1.size : Int) ≤ maxK .i64)) (fun x => etaR (F x.1 x.2.1))
noncomputable def plTi4 (F : TCT cGr → TCT cSt → TkR) : List (Nat × PureT) := (15, s_Works) :: (18, s_Same) :: (19, s_smK) :: (21, s_TickF F) :: (22, s_TickF F) :: (20, s_Copy) :: plS3
theorem puTi4 : PuOk Tryz.prog (plTi4 TickV) := puOk_cons is_Works4.plain q_Works4 (puOk_cons is_lSame.plain q_Same (puOk_cons is_smK.plain q_smK (puOk_cons is_sTick.plain q_Tick4 (puOk_cons is_rTick4.plain q_rTick4 (puOk_cons is_rCopy.plain q_rCopy puS3)))))
noncomputable def ti_T (z c : Bool) (e : Int) (x s : TCT cSt) (k : Kns) : Tree Unit :=
  bif c then bif z then bif z then bif e == e then bif eqC x x then bif eqC k k then bif eqC s s then lfU else .fail else .fail else .fail else .fail else .fail else .fail else .fail
theorem ti_T_ok {z c : Bool} {e : Int} {x s : TCT cSt} {k : Kns} (h : z = true) (hc : c = true) : (ti_T z c e x s k).sat (fun _ => True) := by
  subst h
  subst hc
  unfold ti_T
  simp only [beq_self_eq_true, eqC_t rfl, cond_true]
  trivial
noncomputable def T_tiL (F : TCT cGr → TCT cSt → TkR) (g : TCT cGr) (s : TCT cSt) : Tree Unit := gr_T g s lfU (
  ti_T (decide ((g.1.1.size : Int) ≤ maxK .i64)) (decide ((msT s).length ≤ 1000) && decide ((osT s).length ≤ 1000)) (F g s).2.2.1 (etaS (F g s).1) s (F g s).2.1)
end St
open St
abbrev cs_strokeTicks : List TC := [cGr, cSt]
noncomputable def X_strokeTicksF (F : TCT cGr → TCT cSt → TkR) : Ctx := ctx Tryz.prog (plTi4 F) [(4, Tryz.f4), (14, Tryz.f14)]
noncomputable def X_strokeTicks : Ctx := X_strokeTicksF TickV
theorem X_strokeTicks_ok : CtxOk X_strokeTicks := ctx_ok mixed puTi4 (fns_cons is_StrokeTicks (fns_cons is_l4great fns_nil))
theorem tiL_all {g : TCT cGr} {s : TCT cSt} (hs : (g.1.1.size : Int) ≤ maxK .i64) : (T_tiL TickV g s).sat (fun _ => True) := by
  refine gr_T_ok hs trivial fun hm ho => ?_
  refine ti_T_ok (decide_eq_true hs) ?_
  simp only [Bool.and_eq_true, decide_eq_true_eq]
  omega
theorem tiL_eq (F : TCT cGr → TCT cSt → TkR) (y : TCTs cs_strokeTicks) : evFn (X_strokeTicksF F) 8 (.fn 4) (encAs cs_strokeTicks y) noHeap 0 lawK = T_tiL F y.1 y.2.1 := by kernel_rfl
theorem strokeTicks_sat : LawSat2 X_strokeTicks 4 cs_strokeTicks 8 := lawSat2 8 (fun y => T_tiL TickV y.1 y.2.1) (tiL_eq TickV) fun _ _ hs => tiL_all hs.1.1.1
end V
end Go.Proofs.YtkiaifmbbnnliaaGreat
