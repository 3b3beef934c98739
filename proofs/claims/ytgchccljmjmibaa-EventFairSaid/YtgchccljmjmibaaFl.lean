/- The law EventFair: its loops, step by step. -/
import Derived.Test.YtgchccljmjmibaaFi
namespace Go.Proofs.Ytgchccljmjmibaa
open Go.RowKit
namespace V
namespace Ev
theorem is_lfa : FnIs Try.prog (7, Try.f7) := ⟨Try.func7, by kernel_rfl, by kernel_rfl⟩
noncomputable def plFa : List (Nat × PureT) := (20, s_Draw) :: (21, s_draw) :: (22, s_Meet) :: (15, s_fine) :: []
theorem puFa : PuOk Try.prog plFa := puOk_cons is_eDraw.plain q_Draw (puOk_cons is_eCD.plain q_draw (puOk_cons is_eMeet.plain q_eMeet (puOk_cons is_w12.plain q_fine puOk_nil)))
noncomputable def XFa : Ctx := ctx Try.prog plFa []
theorem XFa_ok : CtxOk XFa := ctx_ok mixed puFa fns_nil
noncomputable def lb_fa (k : Nat) : Code := (loopsOf (bodyOf Try.f7)).getD k .skip
abbrev cU16 : TC := .i .u16
def L_a0 : Lay := { keys := [2, 7, 8, 9, 10], ks := [.d (.sl cU16), .d cI, .d cI, .o 3 cI, .d cI], bs := [], n := 165, nx := 1000, marks := [] }
def R_a0 : Lay := { keys := [7, 8, 9], ks := [.d cI, .d cI, .o 3 cI], bs := [], n := 165, nx := 1000, marks := [] }
def E_a0 : XE → Lay := fun _ => R_a0
abbrev cA0 := L_a0.T ⊕ Left' E_a0
abbrev kA1 : List SK := [.d cI, .d cI, .d (.sl cI), .o 4 .b, .d cI, .d cI]
def L_a1 : Lay := { keys := [7, 8, 12, 14, 15, 16], ks := kA1, bs := [], n := 165, nx := 2000, marks := [] }
def E_a1 : XE → Lay := fun _ => L_a1
abbrev cA1 := L_a1.T ⊕ Left' E_a1
def L_a2 : Lay := { keys := [7, 8, 12, 14, 15, 16, 17], ks := kA1 ++ [.d cI], bs := [], n := 165, nx := 3000, marks := [] }
def R_a2 : Lay := { keys := [7, 8, 12, 15, 16], ks := [.d cI, .d cI, .d (.sl cI), .d cI, .d cI], bs := [], n := 165, nx := 3000, marks := [] }
def Rt_a2 : Lay := { keys := [6], ks := [.d .b], bs := [], n := 165, nx := 3000, marks := [] }
def E_a2 : XE → Lay := fun e => match e with | .ret => Rt_a2 | _ => R_a2
abbrev cA2 := L_a2.T ⊕ Left' E_a2
def L_a5 : Lay := { keys := [8, 12, 15, 19, 20, 21], ks := [.d cI, .d (.sl cI), .d cI, .d cI, .d cI, .d cI], bs := [], n := 165, nx := 6000, marks := [] }
def R_a5 : Lay := { keys := [8, 12, 15, 19, 20], ks := [.d cI, .d (.sl cI), .d cI, .d cI, .d cI], bs := [], n := 165, nx := 6000, marks := [] }
def Rt_a5 : Lay := { keys := [6], ks := [.d .b], bs := [], n := 165, nx := 6000, marks := [] }
def E_a5 : XE → Lay := fun e => match e with | .ret => Rt_a5 | _ => R_a5
abbrev cA5 := L_a5.T ⊕ Left' E_a5
def L_a4 : Lay := { keys := [8, 12, 15, 19, 20], ks := [.d cI, .d (.sl cI), .d cI, .d cI, .d cI], bs := [], n := 165, nx := 5000, marks := [] }
def R_a4 : Lay := { keys := [8, 12, 15, 19], ks := [.d cI, .d (.sl cI), .d cI, .d cI], bs := [], n := 165, nx := 5000, marks := [] }
def Rt_a4 : Lay := { keys := [6], ks := [.d .b], bs := [], n := 165, nx := 5000, marks := [] }
def E_a4 : XE → Lay := fun e => match e with | .ret => Rt_a4 | _ => R_a4
abbrev cA4 := L_a4.T ⊕ Left' E_a4
def L_a3 : Lay := { keys := [8, 12, 15, 19], ks := [.d cI, .d (.sl cI), .d cI, .d cI], bs := [], n := 165, nx := 4000, marks := [] }
def R_a3 : Lay := { keys := [], ks := [], bs := [], n := 165, nx := 4000, marks := [] }
def Rt_a3 : Lay := { keys := [6], ks := [.d .b], bs := [], n := 165, nx := 4000, marks := [] }
def E_a3 : XE → Lay := fun e => match e with | .ret => Rt_a3 | _ => R_a3
abbrev cA3 := L_a3.T ⊕ Left' E_a3
/-! lots -/
def hd_a0 (lo : List Int) (n k : Int) (l : List Int) (i : Int) : L_a0.T := ((lo, n, k, l, i, ()), ())
def ex_a0 (n k : Int) (l : List Int) : Left' E_a0 := ⟨.exit 0, ((n, k, l, ()), ())⟩
def pu_a0 (lo : List Int) (n k : Int) (l : List Int) (i x : Int) : Tree cA0 := bif appOk l [x] 8 then .leaf (.inl (hd_a0 lo n k (l ++ [x]) (W64 (i + 1)))) else .fail
def sm_a0 (lo : List Int) (n k : Int) (l : List Int) (i : Int) : Tree cA0 := bif decide (i < W64 (n - k)) then (bif decide (i < (lo.length : Int)) then inN lo.length i (pu_a0 lo n k l i (W64 (getA lo (Int.toNat i) 0))) else pu_a0 lo n k l i 0) else .leaf (.inr (ex_a0 n k l))
def st_a0 (g : L_a0.T) : Tree cA0 := sm_a0 g.1.1 g.1.2.1 g.1.2.2.1 g.1.2.2.2.1 g.1.2.2.2.2.1
def fu_a0 (g : L_a0.T) : Nat := Int.toNat g.1.2.1 + 1
theorem e_a0 (g : L_a0.T) : evC Try.prog (evFn XFa 6) XFa.pures 7 XFa.u (fun _ => none) (lb_fa 0) (L_a0.of g) (stepOut L_a0 E_a0) = st_a0 g := by kernel_rfl
/-! rounds -/
def p2 (j : Int) : Int := W64 (1 * 2 ^ min (Int.toNat j) (IntKind.bits .i64))
def hd_a1 (n k : Int) (s : List Int) (e : List Bool) (r b : Int) : L_a1.T := ((n, k, s, e, r, b, ()), ())
def ex_a1 (n k : Int) (s : List Int) (e : List Bool) (r b : Int) : Left' E_a1 := ⟨.exit 2, ((n, k, s, e, r, b, ()), ())⟩
def sm_a1 (n k : Int) (s : List Int) (e : List Bool) (r b : Int) : Tree cA1 := bif decide (0 ≤ r) then (bif decide (p2 r < (s.length : Int)) then .leaf (.inl (hd_a1 n k s e (W64 (r + 1)) b)) else .leaf (.inr (ex_a1 n k s e r b))) else .fail
def st_a1 (g : L_a1.T) : Tree cA1 := sm_a1 g.1.1 g.1.2.1 g.1.2.2.1 g.1.2.2.2.1 g.1.2.2.2.2.1 g.1.2.2.2.2.2.1
def fu_a1 (_ : L_a1.T) : Nat := 8
theorem e_a1 (g : L_a1.T) : evC Try.prog (evFn XFa 6) XFa.pures 7 XFa.u (fun _ => none) (lb_fa 1) (L_a1.of g) (stepOut L_a1 E_a1) = st_a1 g := by kernel_rfl
/-! slots -/
def hd_a2 (n k : Int) (s : List Int) (e : List Bool) (r b i : Int) : L_a2.T := ((n, k, s, e, r, b, i, ()), ())
def ex_a2 (n k : Int) (s : List Int) (r b : Int) : Left' E_a2 := ⟨.exit 4, ((n, k, s, r, b, ()), ())⟩
def rt_a2 : Left' E_a2 := ⟨.ret, ((false, ()), ())⟩
def x_a2 (n k : Int) (s : List Int) (e : List Bool) (r b i x : Int) : Tree cA2 := bif x == -1 then .leaf (.inl (hd_a2 n k s e r (W64 (b + 1)) (W64 (i + 1)))) else bif decide (x < 0) then .leaf (.inr rt_a2) else bif decide (x ≥ n) then .leaf (.inr rt_a2) else inO e.length x (bif getA e (Int.toNat x) false then .leaf (.inr rt_a2) else inO e.length x (.leaf (.inl (hd_a2 n k s (setA e (Int.toNat x) true) r b (W64 (i + 1))))))
def sm_a2 (n k : Int) (s : List Int) (e : List Bool) (r b i : Int) : Tree cA2 := bif decide (i < (s.length : Int)) then inN s.length i (x_a2 n k s e r b i (getA s (Int.toNat i) 0)) else .leaf (.inr (ex_a2 n k s r b))
def st_a2 (g : L_a2.T) : Tree cA2 := sm_a2 g.1.1 g.1.2.1 g.1.2.2.1 g.1.2.2.2.1 g.1.2.2.2.2.1 g.1.2.2.2.2.2.1 g.1.2.2.2.2.2.2.1
def fu_a2 (g : L_a2.T) : Nat := (g.1.2.2.1 : List Int).length + 1
theorem e_a2 (g : L_a2.T) : evC Try.prog (evFn XFa 6) XFa.pures 7 XFa.u (fun _ => none) (lb_fa 2) (L_a2.of g) (stepOut L_a2 E_a2) = st_a2 g := by kernel_rfl
/-! seeds -/
def hd_a5 (k : Int) (s : List Int) (r j a b : Int) : L_a5.T := ((k, s, r, j, a, b, ()), ())
def ex_a5 (k : Int) (s : List Int) (r j a : Int) : Left' E_a5 := ⟨.exit 10, ((k, s, r, j, a, ()), ())⟩
def rt_a5 : Left' E_a5 := ⟨.ret, ((false, ()), ())⟩
def m_a5 (k : Int) (s : List Int) (r j a b : Int) (m : Int × Int) : Tree cA5 := bif m.2 != 0 then .leaf (.inr rt_a5) else bif decide (m.1 < W64 (r - j)) then .leaf (.inr rt_a5) else .leaf (.inl (hd_a5 k s r j a (W64 (b + 1))))
def sm_a5 (k : Int) (s : List Int) (r j a b : Int) : Tree cA5 := bif decide (b < a) then m_a5 k s r j a b (meV s a b) else .leaf (.inr (ex_a5 k s r j a))
def st_a5 (g : L_a5.T) : Tree cA5 := sm_a5 g.1.1 g.1.2.1 g.1.2.2.1 g.1.2.2.2.1 g.1.2.2.2.2.1 g.1.2.2.2.2.2.1
def fu_a5 (g : L_a5.T) : Nat := Int.toNat g.1.2.2.2.2.1 + 1
theorem e_a5 (g : L_a5.T) : evC Try.prog (evFn XFa 6) XFa.pures 7 XFa.u (fun _ => none) (lb_fa 5) (L_a5.of g) (stepOut L_a5 E_a5) = st_a5 g := by kernel_rfl
noncomputable def Lt_a4 : LoopT := fun k => bif Nat.beq k 36 then some (loopSum L_a5 E_a5 (finX [.ret, .exit 10] st_a5 fu_a5)) else none
def hd_a4 (k : Int) (s : List Int) (r j a : Int) : L_a4.T := ((k, s, r, j, a, ()), ())
def ex_a4 (k : Int) (s : List Int) (r j : Int) : Left' E_a4 := ⟨.exit 8, ((k, s, r, j, ()), ())⟩
def y_a4 (y : Option (Left' E_a5)) : Tree cA4 := bif isE .ret y then .leaf (.inr ⟨.ret, (((valE .ret y).1.1, ()), ())⟩) else bif isE (.exit 10) y then .leaf (.inl (hd_a4 (valE (.exit 10) y).1.1 (valE (.exit 10) y).1.2.1 (valE (.exit 10) y).1.2.2.1 (valE (.exit 10) y).1.2.2.2.1 (W64 ((valE (.exit 10) y).1.2.2.2.2.1 + 1)))) else .fail
def sm_a4 (k : Int) (s : List Int) (r j a : Int) : Tree cA4 := bif decide (0 ≤ j) then (bif decide (a < p2 j) then y_a4 (iter st_a5 (Int.toNat a + 1) (hd_a5 k s r j a 0)) else .leaf (.inr (ex_a4 k s r j))) else .fail
def st_a4 (g : L_a4.T) : Tree cA4 := sm_a4 g.1.1 g.1.2.1 g.1.2.2.1 g.1.2.2.2.1 g.1.2.2.2.2.1
def fu_a4 (g : L_a4.T) : Nat := Int.toNat (p2 g.1.2.2.2.1) + 1
theorem e_a4 (g : L_a4.T) : evC Try.prog (evFn XFa 6) XFa.pures 7 XFa.u Lt_a4 (lb_fa 4) (L_a4.of g) (stepOut L_a4 E_a4) = st_a4 g := by kernel_rfl
noncomputable def Lt_a3 : LoopT := fun k => bif Nat.beq k 33 then some (loopSum L_a4 E_a4 (finX [.ret, .exit 8] st_a4 fu_a4)) else none
def hd_a3 (k : Int) (s : List Int) (r j : Int) : L_a3.T := ((k, s, r, j, ()), ())
def ex_a3 : Left' E_a3 := ⟨.exit 6, ((), ())⟩
def y_a3 (y : Option (Left' E_a4)) : Tree cA3 := bif isE .ret y then .leaf (.inr ⟨.ret, (((valE .ret y).1.1, ()), ())⟩) else bif isE (.exit 8) y then .leaf (.inl (hd_a3 (valE (.exit 8) y).1.1 (valE (.exit 8) y).1.2.1 (valE (.exit 8) y).1.2.2.1 (W64 ((valE (.exit 8) y).1.2.2.2.1 + 1)))) else .fail
def sm_a3 (k : Int) (s : List Int) (r j : Int) : Tree cA3 := bif decide (0 ≤ j) then (bif decide (p2 j ≤ k) then (bif decide (j ≤ r) then y_a3 (iter st_a4 (Int.toNat (p2 j) + 1) (hd_a4 k s r j 0)) else .leaf (.inr ex_a3)) else .leaf (.inr ex_a3)) else .fail
def st_a3 (g : L_a3.T) : Tree cA3 := sm_a3 g.1.1 g.1.2.1 g.1.2.2.1 g.1.2.2.2.1
def fu_a3 (g : L_a3.T) : Nat := Int.toNat g.1.2.2.1 + 2
theorem e_a3 (g : L_a3.T) : evC Try.prog (evFn XFa 6) XFa.pures 7 XFa.u Lt_a3 (lb_fa 3) (L_a3.of g) (stepOut L_a3 E_a3) = st_a3 g := by kernel_rfl
abbrev cs_eventFair : List TC := [.i .u8, .i .u8, .sl cU16]
noncomputable def lps_fa : List ((Nat × Nat) × (St → Tree (XE × St))) := [((7, 5), loopSum L_a0 E_a0 (finX [.exit 0] st_a0 fu_a0)), ((7, 16), loopSum L_a1 E_a1 (finX [.exit 2] st_a1 fu_a1)), ((7, 19), loopSum L_a2 E_a2 (finX [.ret, .exit 4] st_a2 fu_a2)), ((7, 30), loopSum L_a3 E_a3 (finX [.ret, .exit 6] st_a3 fu_a3))]
end Ev
open Ev
noncomputable def X_eventFair : Ctx := ctxL Try.prog plFa [(7, Try.f7)] lps_fa
end V
end Go.Proofs.Ytgchccljmjmibaa
