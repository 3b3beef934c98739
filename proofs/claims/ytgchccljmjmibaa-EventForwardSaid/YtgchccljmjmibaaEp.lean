/- The law EventForward: its loops, step by step. -/
import Derived.Test.YtgchccljmjmibaaEn
namespace Go.Proofs.Ytgchccljmjmibaa
open Go.RowKit
namespace V
namespace Ev
theorem is_lfw : FnIs Try.prog (10, Try.f10) := ⟨Try.func10, by kernel_rfl, by kernel_rfl⟩
noncomputable def XF0 : Ctx := ctxU 3 Try.prog [] []
theorem XF0_ok : CtxOk XF0 := ctxU_ok (u := 3) mixed puOk_nil fns_nil
noncomputable def lb_f0 : Code := (loopsOf (bodyOf Try.f10)).getD 0 .skip
noncomputable def lb_f1 : Code := (loopsOf (bodyOf Try.f10)).getD 1 .skip
noncomputable def lb_f2 : Code := (loopsOf (bodyOf Try.f10)).getD 2 .skip
noncomputable def lb_f3 : Code := (loopsOf (bodyOf Try.f10)).getD 3 .skip
abbrev cLP : TC := .sl cPq
def L_f0 : Lay := { keys := [0, 1, 7, 11, 13], ks := [.d (.sl cI), .d (.sl cSc), .d cLP, .d cLP, .d cI], bs := [], n := 164, nx := 1000, marks := [] }
def R_f0 : Lay := { keys := [0, 1, 7], ks := [.d (.sl cI), .d (.sl cSc), .d cLP], bs := [], n := 164, nx := 1000, marks := [] }
def Rt_f0 : Lay := { keys := [6], ks := [.d .b], bs := [], n := 164, nx := 1000, marks := [] }
def E_f0 : XE → Lay := fun e => match e with | .ret => Rt_f0 | _ => R_f0
abbrev cF0 := L_f0.T ⊕ Left' E_f0
def L_f3 : Lay := { keys := [7, 15, 16, 17, 18, 19], ks := [.d cLP, .d cI, .d cI, .d cI, .d cI, .d cI], bs := [], n := 164, nx := 4000, marks := [] }
def R_f3 : Lay := { keys := [7, 15, 16, 17, 18], ks := [.d cLP, .d cI, .d cI, .d cI, .d cI], bs := [], n := 164, nx := 4000, marks := [] }
def E_f3 : XE → Lay := fun _ => R_f3
abbrev cF3 := L_f3.T ⊕ Left' E_f3
def L_f2 : Lay := { keys := [7, 15, 16, 17], ks := [.d cLP, .d cI, .d cI, .d cI], bs := [], n := 164, nx := 3000, marks := [] }
def R_f2 : Lay := { keys := [], ks := [], bs := [], n := 164, nx := 3000, marks := [] }
def Rt_f2 : Lay := { keys := [6], ks := [.d .b], bs := [], n := 164, nx := 3000, marks := [] }
def E_f2 : XE → Lay := fun e => match e with | .ret => Rt_f2 | _ => R_f2
abbrev cF2 := L_f2.T ⊕ Left' E_f2
/-! no side that was a player changes -/
def hd_f0 (s : List Int) (l : List (TCT cSc)) (a b : List (TCT cPq)) (i : Int) : L_f0.T := ((s, l, a, b, i, ()), ())
def ex_f0 (s : List Int) (l : List (TCT cSc)) (a : List (TCT cPq)) : Left' E_f0 := ⟨.exit 0, ((s, l, a, ()), ())⟩
def rt_f0 : Left' E_f0 := ⟨.ret, ((false, ()), ())⟩
def b1_f0 (s : List Int) (l : List (TCT cSc)) (a b : List (TCT cPq)) (i : Int) (x y : TCT cPq) : Tree cF0 := inN a.length i (bif x.2.1 != -2 then inN a.length i (inN b.length i (bif x.2.1 != y.2.1 then .leaf (.inr rt_f0) else .leaf (.inl (hd_f0 s l a b (W64 (i + 1)))))) else .leaf (.inl (hd_f0 s l a b (W64 (i + 1)))))
def b0_f0 (s : List Int) (l : List (TCT cSc)) (a b : List (TCT cPq)) (i : Int) (x y : TCT cPq) : Tree cF0 := bif x.1 != -2 then inN a.length i (inN b.length i (bif x.1 != y.1 then .leaf (.inr rt_f0) else b1_f0 s l a b i x y)) else b1_f0 s l a b i x y
def sm_f0 (s : List Int) (l : List (TCT cSc)) (a b : List (TCT cPq)) (i : Int) : Tree cF0 := bif decide (i < (a.length : Int)) then inN a.length i (b0_f0 s l a b i (getA a (Int.toNat i) (dflt cPq)) (getA b (Int.toNat i) (dflt cPq))) else .leaf (.inr (ex_f0 s l a))
def st_f0 (g : L_f0.T) : Tree cF0 := sm_f0 g.1.1 g.1.2.1 g.1.2.2.1 g.1.2.2.2.1 g.1.2.2.2.2.1
def fu_f0 (g : L_f0.T) : Nat := (g.1.2.2.1 : List (TCT cPq)).length + 1
theorem e_f0 (g : L_f0.T) : evC Try.prog (evFn XF0 6) XF0.pures 10 XF0.u (fun _ => none) lb_f0 (L_f0.of g) (stepOut L_f0 E_f0) = st_f0 g := by kernel_rfl
/-! the matches of a champion in a round -/
def hd_f3 (a : List (TCT cPq)) (w at' many f i : Int) : L_f3.T := ((a, w, at', many, f, i, ()), ())
def ex_f3 (a : List (TCT cPq)) (w at' many f : Int) : Left' E_f3 := ⟨.exit 6, ((a, w, at', many, f, ()), ())⟩
def bd_f3 (a : List (TCT cPq)) (w at' many f i : Int) (x : TCT cPq) : Tree cF3 := bif x.1 == w then .leaf (.inl (hd_f3 a w at' many (W64 (f + 1)) (W64 (i + 1)))) else inN a.length i (bif x.2.1 == w then .leaf (.inl (hd_f3 a w at' many (W64 (f + 1)) (W64 (i + 1)))) else .leaf (.inl (hd_f3 a w at' many f (W64 (i + 1)))))
def sm_f3 (a : List (TCT cPq)) (w at' many f i : Int) : Tree cF3 := bif decide (i < W64 (at' + many)) then inN a.length i (bd_f3 a w at' many f i (getA a (Int.toNat i) (dflt cPq))) else .leaf (.inr (ex_f3 a w at' many f))
def st_f3 (g : L_f3.T) : Tree cF3 := sm_f3 g.1.1 g.1.2.1 g.1.2.2.1 g.1.2.2.2.1 g.1.2.2.2.2.1 g.1.2.2.2.2.2.1
def fu_f3 (g : L_f3.T) : Nat := (g.1.1 : List (TCT cPq)).length + 1
theorem e_f3 (g : L_f3.T) : evC Try.prog (evFn XF0 6) XF0.pures 10 XF0.u (fun _ => none) lb_f3 (L_f3.of g) (stepOut L_f3 E_f3) = st_f3 g := by kernel_rfl
noncomputable def Lt_f2 : LoopT := fun k => bif Nat.beq k 31 then some (loopSum L_f3 E_f3 (finX [.exit 6] st_f3 fu_f3)) else none
def hd_f2 (a : List (TCT cPq)) (w at' many : Int) : L_f2.T := ((a, w, at', many, ()), ())
def ex_f2 : Left' E_f2 := ⟨.exit 4, ((), ())⟩
def rt_f2 : Left' E_f2 := ⟨.ret, ((false, ()), ())⟩
def z_f2 (v : R_f3.T) : Tree cF2 := bif v.1.2.2.2.2.1 != 1 then .leaf (.inr rt_f2) else .leaf (.inl (hd_f2 v.1.1 v.1.2.1 (W64 (v.1.2.2.1 + v.1.2.2.2.1)) (W64 (Int.tdiv v.1.2.2.2.1 2))))
def y_f2 (y : Option (Left' E_f3)) : Tree cF2 := bif isE (.exit 6) y then z_f2 (valE (.exit 6) y) else .fail
def sm_f2 (a : List (TCT cPq)) (w at' many : Int) : Tree cF2 := bif decide (many ≥ 1) then y_f2 (iter st_f3 (a.length + 1) (hd_f3 a w at' many 0 at')) else .leaf (.inr ex_f2)
def st_f2 (g : L_f2.T) : Tree cF2 := sm_f2 g.1.1 g.1.2.1 g.1.2.2.1 g.1.2.2.2.1
def fu_f2 (g : L_f2.T) : Nat := (g.1.1 : List (TCT cPq)).length + 2
theorem e_f2 (g : L_f2.T) : evC Try.prog (evFn XF0 6) XF0.pures 10 XF0.u Lt_f2 lb_f2 (L_f2.of g) (stepOut L_f2 E_f2) = st_f2 g := by kernel_rfl
/-! the law's tree -/
noncomputable def plFw : List (Nat × PureT) := (31, s_Counts) :: (33, s_Sides) :: (35, s_Champ) :: (15, s_fine) :: []
theorem puFw : PuOk Try.prog plFw := puOk_cons is_eCounts.plain q_Counts (puOk_cons is_eSides.plain q_Sides (puOk_cons is_eChamp.plain q_Champ (puOk_cons is_w12.plain q_fine puOk_nil)))
abbrev cs_eventForward : List TC := [.sl cI, .sl cSc, cSc]
abbrev lfw : Tree Unit := .leaf ()
def y2_fw (y : Option (Left' E_f2)) : Tree Unit := bif isE .ret y then (bif (valE .ret y).1.1 then lfw else .fail) else bif isE (.exit 4) y then lfw else .fail
def ch_fw (a : List (TCT cPq)) (n : Int) (c : Int × Int) : Tree Unit := bif c.2 != 0 then (bif c.2 == 5 then (bif c.1 == 0 then lfw else .fail) else .fail) else y2_fw (iter st_f2 (a.length + 2) (hd_f2 a c.1 0 (W64 (Int.tdiv n 2))))
def z_fw (s : List Int) (l : List (TCT cSc)) (a : List (TCT cPq)) : Tree Unit := ch_fw a (s.length : Int) (chaV s l)
def y0_fw (y : Option (Left' E_f0)) : Tree Unit := bif isE .ret y then (bif (valE .ret y).1.1 then lfw else .fail) else bif isE (.exit 0) y then z_fw (valE (.exit 0) y).1.1 (valE (.exit 0) y).1.2.1 (valE (.exit 0) y).1.2.2.1 else .fail
def b_fw (s : List Int) (l : List (TCT cSc)) (a b : List (TCT cPq) × Int) : Tree Unit := bif b.2 == 0 then (bif (b.1.length : Int) != (a.1.length : Int) then .fail else y0_fw (iter st_f0 (a.1.length + 1) (hd_f0 s l a.1 b.1 0))) else z_fw s l a.1
def m_fw (s : List Int) (l : List (TCT cSc)) (x : TCT cSc) (a : List (TCT cPq) × Int) : Tree Unit := bif (coV l x.1).2 == 5 then (bif appOk ([] : List (TCT cSc)) l 32 then (bif appOk l [eS x] 32 then b_fw s l a (sidV s (l ++ [eS x])) else .fail) else .fail) else z_fw s l a.1
def T_fw (s : List Int) (l : List (TCT cSc)) (x : TCT cSc) : Tree Unit := bif decide ((s.length : Int) > 100) then lfw else bif decide ((l.length : Int) > 60) then lfw else bif (sidV s l).2 != 0 then (bif ((sidV s l).1.length : Int) == 0 then lfw else .fail) else bif ((sidV s l).1.length : Int) != W64 ((s.length : Int) - 1) then .fail else m_fw s l x (sidV s l)
end Ev
open Ev
noncomputable def X_eventForward : Ctx := ctxL Try.prog plFw [(10, Try.f10)] [((10, 15), loopSum L_f0 E_f0 (finX [.ret, .exit 0] st_f0 fu_f0)), ((10, 27), loopSum L_f2 E_f2 (finX [.ret, .exit 4] st_f2 fu_f2))]
theorem T_fw_eq (y : TCTs cs_eventForward) : evFn X_eventForward 7 (.fn 10) (encAs cs_eventForward y) noHeap 0 lawK = T_fw y.1 y.2.1 y.2.2.1 := by kernel_rfl
end V
end Go.Proofs.Ytgchccljmjmibaa
