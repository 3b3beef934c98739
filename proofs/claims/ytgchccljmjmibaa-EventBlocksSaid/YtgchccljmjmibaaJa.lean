/- Chapter 11: the rounds of a block, in the reference. -/
import Derived.Test.YtgchccljmjmibaaZv
namespace Go.Proofs.Ytgchccljmjmibaa
open Go.RowKit
namespace V
namespace Ev
theorem is_rRounds : FnIs Try.prog (40, Try.f40) := ⟨Try.func40, by kernel_rfl, by kernel_rfl⟩
theorem is_rblkA : FnIs Try.prog (84, Try.f84) := ⟨Try.func84, by kernel_rfl, by kernel_rfl⟩

abbrev nRr : Nat := 40
noncomputable def XRr0 : Ctx := ctx Try.prog [] []
theorem XRr0_ok : CtxOk XRr0 := ctx_ok mixed puOk_nil fns_nil
noncomputable def lb_rr (k : Nat) : Code := (loopsOf (bodyOf Try.f40)).getD k .skip
abbrev tLP : TypeId := 44
abbrev cPz : TC := .st [cI, cI]
abbrev cLP2 : TC := .sl cPz
def L_j1 : Lay := { keys := [0, 4, 5, 6, 7, 8], ks := [.d cI, .d cI, .o tLP cLP2, .d cI, .o 3 cI, .d cI], bs := [], n := 100, nx := 2000, marks := [] }
def R_j1 : Lay := { keys := [0, 4, 5, 6, 7], ks := [.d cI, .d cI, .o tLP cLP2, .d cI, .o 3 cI], bs := [], n := 100, nx := 2000, marks := [] }
def E_j1 : XE → Lay := fun _ => R_j1
def L_j2 : Lay := { keys := [0, 4, 5, 6, 7, 11, 12], ks := [.d cI, .d cI, .o tLP cLP2, .d cI, .o 3 cI, .o 45 cPz, .d cI], bs := [], n := 100, nx := 3000, marks := [] }
def R_j2 : Lay := { keys := [0, 4, 5, 6, 11], ks := [.d cI, .d cI, .o tLP cLP2, .d cI, .d cLP2], bs := [], n := 100, nx := 3000, marks := [] }
def E_j2 : XE → Lay := fun _ => R_j2
def L_j0 : Lay := { keys := [0, 4, 5, 6], ks := [.d cI, .d cI, .o tLP cLP2, .d cI], bs := [], n := 100, nx := 1000, marks := [] }
def R_j0 : Lay := { keys := [5], ks := [.o tLP cLP2], bs := [], n := 100, nx := 1000, marks := [] }
def E_j0 : XE → Lay := fun _ => R_j0
abbrev LP := List (TCT cPz)
abbrev cJ1 := L_j1.T ⊕ Left' E_j1
abbrev cJ2 := L_j2.T ⊕ Left' E_j2
abbrev cJ0 := L_j0.T ⊕ Left' E_j0
def hd_j1 (n m : Int) (o : List LP) (r : Int) (me : List Int) (k : Int) : L_j1.T := ((n, m, o, r, me, k, ()), ())
def ex_j1 (n m : Int) (o : List LP) (r : Int) (me : List Int) : Left' E_j1 := ⟨.exit 2, ((n, m, o, r, me, ()), ())⟩
def bd_j1 (n m : Int) (o : List LP) (r : Int) (me : List Int) (k a b : Int) : Tree cJ1 := inO me.length a (inO (setA me (Int.toNat a) b).length b (.leaf (.inl (hd_j1 n m o r (setA (setA me (Int.toNat a) b) (Int.toNat b) a) (W64 (k + 1))))))
def sm_j1 (n m : Int) (o : List LP) (r : Int) (me : List Int) (k : Int) : Tree cJ1 := bif decide (k < W64 (Int.tdiv m 2)) then (bif W64 (m - 1) != 0 then (bif W64 (m - 1) != 0 then bd_j1 n m o r me k (Int.tmod (W64 (r + k)) (W64 (m - 1))) (Int.tmod (W64 (W64 (W64 (r - k) + m) - 1)) (W64 (m - 1))) else .fail) else .fail) else .leaf (.inr (ex_j1 n m o r me))
def st_j1 (g : L_j1.T) : Tree cJ1 := sm_j1 g.1.1 g.1.2.1 g.1.2.2.1 g.1.2.2.2.1 g.1.2.2.2.2.1 g.1.2.2.2.2.2.1
def fu_j1 (_ : L_j1.T) : Nat := 10
theorem e_j1 (g : L_j1.T) : evC Try.prog (evFn XRr0 6) XRr0.pures nRr XRr0.u (fun _ => none) (lb_rr 1) (L_j1.of g) (stepOut L_j1 E_j1) = st_j1 g := by kernel_rfl
def hd_j2 (n m : Int) (o : List LP) (r : Int) (me : List Int) (ga : LP) (a : Int) : L_j2.T := ((n, m, o, r, me, ga, a, ()), ())
def ex_j2 (n m : Int) (o : List LP) (r : Int) (ga : LP) : Left' E_j2 := ⟨.exit 4, ((n, m, o, r, ga, ()), ())⟩
def sm_j2 (n m : Int) (o : List LP) (r : Int) (me : List Int) (ga : LP) (a : Int) : Tree cJ2 :=
  bif decide (a < n) then inO me.length a (bif decide (getA me (Int.toNat a) (dflt cI) > a) then inO me.length a (bif decide (getA me (Int.toNat a) (dflt cI) < n) then inO me.length a (bif appOk ga [((a, getA me (Int.toNat a) (dflt cI), ()) : TCT cPz)] 16 then .leaf (.inl (hd_j2 n m o r me (ga ++ [(a, getA me (Int.toNat a) (dflt cI), ())]) (W64 (a + 1)))) else .fail)
    else .leaf (.inl (hd_j2 n m o r me ga (W64 (a + 1))))) else .leaf (.inl (hd_j2 n m o r me ga (W64 (a + 1))))) else .leaf (.inr (ex_j2 n m o r ga))
def st_j2 (g : L_j2.T) : Tree cJ2 := sm_j2 g.1.1 g.1.2.1 g.1.2.2.1 g.1.2.2.2.1 g.1.2.2.2.2.1 g.1.2.2.2.2.2.1 g.1.2.2.2.2.2.2.1
def fu_j2 (_ : L_j2.T) : Nat := 20
theorem e_j2 (g : L_j2.T) : evC Try.prog (evFn XRr0 6) XRr0.pures nRr XRr0.u (fun _ => none) (lb_rr 2) (L_j2.of g) (stepOutV [] [11] L_j2 E_j2) = st_j2 g := by kernel_rfl
noncomputable def s_j1 : St → Tree (XE × St) := loopSum L_j1 E_j1 (finX [.exit 2] st_j1 fu_j1)
noncomputable def s_j2 : St → Tree (XE × St) := loopSum L_j2 E_j2 (finX [.exit 4] st_j2 fu_j2)
theorem l_j1 : LoopOk Try.prog nRr (lb_rr 1) s_j1 := loopOk_x0 XRr0_ok 6 _ L_j1 E_j1 (fun _ => Nat.le_refl _) [.exit 2] st_j1 fu_j1 e_j1
theorem l_j2 : LoopOk Try.prog nRr (lb_rr 2) s_j2 := loopOk_xV XRr0_ok 6 _ [] [11] (fun _ => none) (fun _ _ _ h => by cases h) L_j2 E_j2 (fun _ => Nat.le_refl _) [.exit 4] st_j2 fu_j2 e_j2
noncomputable def Lt_j0 : LoopT := assoc2 [((nRr, 12), s_j1), ((nRr, 19), s_j2)] nRr
def hd_j0 (n m : Int) (o : List LP) (r : Int) : L_j0.T := ((n, m, o, r, ()), ())
def ex_j0 (o : List LP) : Left' E_j0 := ⟨.exit 0, ((o, ()), ())⟩
def mk8i {β : Type} (m : Int) (k : Tree β) : Tree β := bif decide (0 ≤ m ∧ m ≤ m ∧ m ≤ 65536 ∧ ((8 : Nat) : Int) * m ≤ 281474976710656) then k else .fail
def y2_j0 (y : Option (Left' E_j2)) : Tree cJ0 := bif isE (.exit 4) y then (bif appOk (valE (E := E_j2) (.exit 4) y).1.2.2.1 [(valE (E := E_j2) (.exit 4) y).1.2.2.2.2.1] 24 then .leaf (.inl (hd_j0 (valE (E := E_j2) (.exit 4) y).1.1 (valE (E := E_j2) (.exit 4) y).1.2.1 ((valE (E := E_j2) (.exit 4) y).1.2.2.1 ++ [(valE (E := E_j2) (.exit 4) y).1.2.2.2.2.1]) (W64 ((valE (E := E_j2) (.exit 4) y).1.2.2.2.1 + 1)))) else .fail) else .fail
def y1_j0 (y : Option (Left' E_j1)) : Tree cJ0 := bif isE (.exit 2) y then y2_j0 (iter st_j2 20 (hd_j2 (valE (E := E_j1) (.exit 2) y).1.1 (valE (E := E_j1) (.exit 2) y).1.2.1 (valE (E := E_j1) (.exit 2) y).1.2.2.1 (valE (E := E_j1) (.exit 2) y).1.2.2.2.1 (valE (E := E_j1) (.exit 2) y).1.2.2.2.2.1 [] 0)) else .fail
def sm_j0 (n m : Int) (o : List LP) (r : Int) : Tree cJ0 := bif decide (r < W64 (m - 1)) then mk8i m (inO (List.replicate (Int.toNat m) (0 : Int)).length (W64 (m - 1)) (inO (setA (List.replicate (Int.toNat m) (0 : Int)) (Int.toNat (W64 (m - 1))) r).length r (y1_j0 (iter st_j1 10 (hd_j1 n m o r (setA (setA (List.replicate (Int.toNat m) (0 : Int)) (Int.toNat (W64 (m - 1))) r) (Int.toNat r) (W64 (m - 1))) 1))))) else .leaf (.inr (ex_j0 o))
def st_j0 (g : L_j0.T) : Tree cJ0 := sm_j0 g.1.1 g.1.2.1 g.1.2.2.1 g.1.2.2.2.1
def fu_j0 (_ : L_j0.T) : Nat := 20
theorem e_j0 (g : L_j0.T) : evC Try.prog (evFn XRr0 6) XRr0.pures nRr XRr0.u Lt_j0 (lb_rr 0) (L_j0.of g) (stepOut L_j0 E_j0) = st_j0 g := by kernel_rfl
theorem loops_j0 : loopsOf (lb_rr 0) = [lb_rr 1, lb_rr 2] := by kernel_rfl
theorem key_j1 : keyOf (lb_rr 1) = 12 := by kernel_rfl
theorem key_j2 : keyOf (lb_rr 2) = 19 := by kernel_rfl
noncomputable def s_j0 : St → Tree (XE × St) := loopSum L_j0 E_j0 (finX [.exit 0] st_j0 fu_j0)
theorem l_j0 : LoopOk Try.prog nRr (lb_rr 0) s_j0 := loopOk_x XRr0_ok 6 _ Lt_j0 (fun d hd f hf => by
  rw [loops_j0] at hd
  rcases List.mem_cons.1 hd with rfl | hd
  · rw [key_j1] at hf
    cases hf
    exact l_j1
  · rw [List.mem_singleton] at hd
    subst hd
    rw [key_j2] at hf
    cases hf
    exact l_j2) L_j0 E_j0 (fun _ => Nat.le_refl _) [.exit 0] st_j0 fu_j0 e_j0
noncomputable def X_rR : Ctx := ctxL Try.prog [] [(40, Try.f40), (84, Try.f84)] [((nRr, 6), s_j0)]
theorem X_rR_ok : CtxOk X_rR := ctxL_ok mixed puOk_nil (fns_cons is_rRounds (fns_cons is_rblkA fns_nil)) (loops_cons (loops_of (ds := [lb_rr 0, lb_rr 1, lb_rr 2]) (by kernel_rfl) ⟨one_key (k := 6) (by kernel_rfl) rfl l_j0, no_key (k := 12) (by kernel_rfl) rfl, no_key (k := 19) (by kernel_rfl) rfl, trivial⟩) (loops_cons (loops_none (by kernel_rfl)) loops_nil))
end Ev
end V
end Go.Proofs.Ytgchccljmjmibaa
