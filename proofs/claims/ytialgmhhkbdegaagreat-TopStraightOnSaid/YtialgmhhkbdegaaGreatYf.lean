/- The loop of the law TopStraightOn. -/
import Derived.Test.YtialgmhhkbdegaaGreatYd
import Derived.Test.YtialgmhhkbdegaaGreatJl
namespace Go.Proofs.YtialgmhhkbdegaaGreat
open Go.RowKit
namespace V
theorem is_tStraightOn : FnIs Tryz.prog (4, Tryz.f4) := ⟨Tryz.func4, by kernel_rfl, by kernel_rfl⟩
noncomputable def plSo : List (Nat × PureT) := [(5, s_board), (7, s_Val), (9, s_Plan), (10, s_Dist), (11, s_All), (12, s_After), (8, s_works)]
theorem puSo : PuOk Tryz.prog plSo := puOk_cons is_board.plain q_board (puOk_cons is_tValue.plain q_Val (puOk_cons is_tPlan.plain q_Plan (puOk_cons is_tDist.plain q_tDist (puOk_cons is_tAll.plain q_All (puOk_cons is_tAfter.plain q_After (puOk_cons is_works09.plain q_works09 puOk_nil (panOk_none rfl)) (panOk_none rfl)) (panOk_none rfl)) (panOk_none rfl)) (panOk_none rfl)) (panOk_none rfl)) (panOk_none rfl)
noncomputable def lb_so : Code := (loopsOf (bodyOf Tryz.f4)).getD 0 .skip
def L_so : Lay := { keys := [3, 4, 5, 7, 9, 10, 11, 12], ks := [.p 1 0 0 0, .p 2 0 0 0, .p 3 0 0 0, .d (.sl cA), .d cI, .d cI, .o 30 cC, .d cI], bs := [(1, 33, kB), (2, 36, kX), (3, 30, [.d cI, .d cI])], n := 163, nx := 1000, marks := [] }
def R_so : Lay := { keys := [5, 7, 9, 10], ks := [.p 3 0 0 0, .d (.sl cA), .d cI, .d cI], bs := [(3, 30, [.d cI, .d cI])], n := 163, nx := 1000, marks := [] }
def Rf_so : Lay := { keys := [2], ks := [.d .b], bs := [], n := 163, nx := 1000, marks := [] }
def E_so : XE → Lay := fun e => match e with | .ret => Rf_so | _ => R_so
theorem E_so_nx : ∀ e, L_so.nx ≤ (E_so e).nx := fun e => by cases e <;> exact Nat.le_refl _
def hd_so (x : SKTs kB) (v : SKTs [.d cI, .d cI]) (pl : List (TCT cA)) (lo hi : Int) (l : List (TCT cC)) (i : Int) (s : TCT cSc) : L_so.T := (((), (), (), pl, lo, hi, l, i, ()), (x, (s.1, s.2.1, s.2.2.1, s.2.2.2.1, ()), v, ()))
def rt_so : L_so.T ⊕ Left' E_so := .inr ⟨.ret, ((false, ()), ())⟩
def ex_so (v : SKTs [.d cI, .d cI]) (pl : List (TCT cA)) (lo hi : Int) : Left' E_so := ⟨.exit 0, (((), pl, lo, hi, ()), (v, ()))⟩
def aSo (pl : List (TCT cA)) (i : Int) : TCT cA := etaA (getA pl (Int.toNat i) (dflt cA))
def ap_so (x : SKTs kB) (v : SKTs [.d cI, .d cI]) (pl : List (TCT cA)) (lo hi : Int) (l : List (TCT cC)) (i : Int) (s : TCT cSc) (c : TCT cC) : Tree (L_so.T ⊕ Left' E_so) :=
  bif appOk l [c] 16 then bif checkF (l ++ [c]) != 0 then .leaf rt_so else bif decide (0 ≤ i ∧ i < (pl.length : Int)) then
    bif worthE (brd' x) s (aSo pl i) != 0 then .leaf rt_so else .leaf (.inl (hd_so x v pl (W64 (lo + (aF (l ++ [c])).1)) (W64 (hi + (aF (l ++ [c])).2)) (l ++ [c]) (W64 (i + 1)) (afterV (brd' x) s (aSo pl i))))
  else .fail else .fail
def st_so' (x : SKTs kB) (v : SKTs [.d cI, .d cI]) (pl : List (TCT cA)) (lo hi : Int) (l : List (TCT cC)) (i : Int) (s : TCT cSc) : Tree (L_so.T ⊕ Left' E_so) :=
  bif decide (i < (pl.length : Int)) then bif decide (0 ≤ s.2.1 ∧ s.2.1 < ((x.2.2.1 : List Int).length : Int)) then
    bif distE (brd' x) s.1 (getA (x.2.2.1 : List Int) (Int.toNat s.2.1) (dflt cI)) != 0 then .leaf rt_so else
    bif decide (distV (brd' x) s.1 (getA (x.2.2.1 : List Int) (Int.toNat s.2.1) (dflt cI)) < 0) then .leaf rt_so else
    bif decide (distV (brd' x) s.1 (getA (x.2.2.1 : List Int) (Int.toNat s.2.1) (dflt cI)) > 2) then .leaf rt_so else
    bif decide (0 ≤ i ∧ i < (pl.length : Int)) then bif (aSo pl i).1 != 1 then .leaf rt_so else
    bif decide (distV (brd' x) s.1 (getA (x.2.2.1 : List Int) (Int.toNat s.2.1) (dflt cI)) = 0) then ap_so x v pl lo hi l i s (brd' x).2.2.2.1.1 else
    bif decide (distV (brd' x) s.1 (getA (x.2.2.1 : List Int) (Int.toNat s.2.1) (dflt cI)) = 1) then ap_so x v pl lo hi l i s (brd' x).2.2.2.1.2.1 else
    bif decide (distV (brd' x) s.1 (getA (x.2.2.1 : List Int) (Int.toNat s.2.1) (dflt cI)) = 2) then ap_so x v pl lo hi l i s (brd' x).2.2.2.1.2.2.1 else .fail
    else .fail else .fail
  else .leaf (.inr (ex_so v pl lo hi))
def st_so (g : L_so.T) : Tree (L_so.T ⊕ Left' E_so) := st_so' g.2.1 g.2.2.2.1 g.1.2.2.2.1 g.1.2.2.2.2.1 g.1.2.2.2.2.2.1 g.1.2.2.2.2.2.2.1 g.1.2.2.2.2.2.2.2.1 g.2.2.1
noncomputable def X_so0 : Ctx := ctxU 5 Tryz.prog plSo []
theorem X_so0_ok : CtxOk X_so0 := ctxU_ok mixed puSo fns_nil
theorem e_so (g : L_so.T) : evC X_so0.P (evFn X_so0 7) X_so0.pures 4 X_so0.u (fun _ => none) lb_so (L_so.of g) (stepOut L_so E_so) = st_so g := by kernel_rfl
theorem l_so : LoopOk Tryz.prog 4 lb_so (loopSum L_so E_so (finX [.exit 0] st_so (fun _ => 40))) := loopOk_x0 X_so0_ok 7 _ L_so E_so E_so_nx [.exit 0] st_so (fun _ => 40) e_so
noncomputable def X_topStraightOn : Ctx := ctxL Tryz.prog plSo [(4, Tryz.f4)] [((4, 10), loopSum L_so E_so (finX [.exit 0] st_so (fun _ => 40)))]
theorem X_topStraightOn_ok : CtxOk X_topStraightOn := ctxL_ok mixed puSo (fns_cons is_tStraightOn fns_nil) (loops_one (by kernel_rfl) (by kernel_rfl) l_so)
abbrev cs_topStraightOn : List TC := [cCo]
/-- a board's cells -/
def cB1 (b : TCT cB) : SKTs kB := (b.1, b.2.1, b.2.2.1, b.2.2.2.1.1.1, b.2.2.2.1.1.2.1, b.2.2.2.1.2.1.1, b.2.2.2.1.2.1.2.1, b.2.2.2.1.2.2.1.1, b.2.2.2.1.2.2.1.2.1, b.2.2.2.2.1.1.1, b.2.2.2.2.1.1.2.1, b.2.2.2.2.1.2.1.1, b.2.2.2.2.1.2.1.2.1, b.2.2.2.2.1.2.2.1.1, b.2.2.2.2.1.2.2.1.2.1, ())
def vSo (b : TCT cB) (s : TCT cSc) : SKTs [.d cI, .d cI] := ((valF b s).1, (valF b s).2.1, ())
def y_so (b : TCT cB) (s : TCT cSc) : Option (Left' E_so) := iter st_so 40 (hd_so (cB1 b) (vSo b s) (planV b s) 0 0 [] 0 s)
def end_so (r : R_so.T) : Tree Unit :=
  bif decide (r.2.1.1 ≥ W64 (r.1.2.2.1 - W64 (((r.1.2.1 : List (TCT cA)).length : Int) * ((r.1.2.1 : List (TCT cA)).length : Int)))) then
  bif decide (r.2.1.1 ≤ W64 (r.1.2.2.1 + W64 (((r.1.2.1 : List (TCT cA)).length : Int) * ((r.1.2.1 : List (TCT cA)).length : Int)))) then
  bif decide (r.2.1.2.1 ≥ W64 (r.1.2.2.2.1 - W64 (((r.1.2.1 : List (TCT cA)).length : Int) * ((r.1.2.1 : List (TCT cA)).length : Int)))) then
  bif decide (r.2.1.2.1 ≤ W64 (r.1.2.2.2.1 + W64 (((r.1.2.1 : List (TCT cA)).length : Int) * ((r.1.2.1 : List (TCT cA)).length : Int)))) then .leaf () else .fail else .fail else .fail else .fail
def T_so (b : TCT cB) (s : TCT cSc) : Tree Unit :=
  bif sceneE b s != 0 then .fail else bif sceneE b s != 0 then .fail else bif ((planV b s).length : Int) != W64 (((b.2.2.1 : List Int).length : Int) - s.2.1) then .fail else
  bif isE (.exit 0) (y_so b s) then end_so (valE (.exit 0) (y_so b s)) else .fail
/-- a scene without other balls -/
def sAlone (s : TCT cSc) : TCT cSc := (s.1, s.2.1, [], [], ())
def TY_topStraightOn (y : TCTs cs_topStraightOn) : Tree Unit := T_so (mkB (bF y.1).1) (sAlone (bF y.1).2)
theorem TY_topStraightOn_eq (y : TCTs cs_topStraightOn) : evFn X_topStraightOn 8 (.fn 4) (encAs cs_topStraightOn y) noHeap 0 lawK = TY_topStraightOn y := by kernel_rfl
end V
end Go.Proofs.YtialgmhhkbdegaaGreat
