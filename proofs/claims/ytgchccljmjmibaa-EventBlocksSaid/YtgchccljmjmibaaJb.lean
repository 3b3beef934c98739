/- Chapter 11: the number of a game, in the reference. -/
import Derived.Test.YtgchccljmjmibaaGag
namespace Go.Proofs.Ytgchccljmjmibaa
open Go.RowKit
namespace V
namespace Ev
theorem is_rnum : FnIs Try.prog (85, Try.f85) := ⟨Try.func85, by kernel_rfl, by kernel_rfl⟩
abbrev nNu : Nat := 85
noncomputable def XNu0 : Ctx := ctx Try.prog [] []
theorem XNu0_ok : CtxOk XNu0 := ctx_ok mixed puOk_nil fns_nil
noncomputable def lb_nu : Code := (loopsOf (bodyOf Try.f85)).getD 0 .skip
def L_nu : Lay := { keys := [0, 1, 2, 7, 8], ks := [.d cI, .d cI, .d cI, .d cI, .d cI], bs := [], n := 26, nx := 1000, marks := [] }
def R_nu : Lay := { keys := [1, 2, 7], ks := [.d cI, .d cI, .d cI], bs := [], n := 26, nx := 1000, marks := [] }
def E_nu : XE → Lay := fun _ => R_nu
abbrev cNu := L_nu.T ⊕ Left' E_nu
def hd_nu (n a b k i : Int) : L_nu.T := ((n, a, b, k, i, ()), ())
def ex_nu (a b k : Int) : Left' E_nu := ⟨.exit 0, ((a, b, k, ()), ())⟩
def sm_nu (n a b k i : Int) : Tree cNu := bif decide (i < a) then .leaf (.inl (hd_nu n a b (W64 (W64 (W64 (k + n) - 1) - i)) (W64 (i + 1)))) else .leaf (.inr (ex_nu a b k))
def st_nu (g : L_nu.T) : Tree cNu := sm_nu g.1.1 g.1.2.1 g.1.2.2.1 g.1.2.2.2.1 g.1.2.2.2.2.1
def fu_nu (g : L_nu.T) : Nat := (g.1.2.1 : Int).toNat + 1
theorem e_nu (g : L_nu.T) : evC Try.prog (evFn XNu0 6) XNu0.pures nNu XNu0.u (fun _ => none) lb_nu (L_nu.of g) (stepOut L_nu E_nu) = st_nu g := by kernel_rfl
noncomputable def X_nu : Ctx := ctxL Try.prog [] [(85, Try.f85)] [((nNu, 3), loopSum L_nu E_nu (finX [.exit 0] st_nu fu_nu))]
theorem X_nu_ok : CtxOk X_nu := ctxL_ok mixed puOk_nil (fns_cons is_rnum fns_nil) (loops_one (lb := lb_nu) (k := 3) (by kernel_rfl) (by kernel_rfl) (loopOk_x0 XNu0_ok 6 _ L_nu E_nu (fun _ => Nat.le_refl _) [.exit 0] _ fu_nu e_nu))
def U_nu (y : Option (Left' E_nu)) : Tree (TCTs [cI]) := bif isE (.exit 0) y then .leaf (W64 (W64 (W64 ((valE (E := E_nu) (.exit 0) y).1.2.2.1 + (valE (E := E_nu) (.exit 0) y).1.2.1) - (valE (E := E_nu) (.exit 0) y).1.1) - 1), ()) else .fail
def T_nu (n a b : Int) : Tree (TCTs [cI]) := U_nu (iter st_nu (a.toNat + 1) (hd_nu n a b 0 0))
def okN (n a b : Int) : Bool := decide (2 ≤ n ∧ n ≤ 16 ∧ 0 ≤ a ∧ a < b ∧ b < n)
def leafI : Tree (TCTs [cI]) → Option Int
  | .leaf x => some x.1
  | _ => none
theorem nu_all : ∀ n : Nat, n ≤ 16 → ∀ b : Nat, b < n → ∀ a : Nat, a < b → leafI (T_nu n a b) = some (numW n a b) := by decide +kernel
theorem leafI_sat {t : Tree (TCTs [cI])} {v : Int} (h : leafI t = some v) : t.sat (fun y => y = (v, ())) := by
  cases t with
  | leaf x => obtain ⟨x, u⟩ := x; cases h; exact rfl
  | _ => cases h
theorem nu_ok (n a b : Int) (h : okN n a b = true) : (T_nu n a b).sat (fun y => y = (numW n a b, ())) := by
  have h := of_decide_eq_true h
  have := nu_all n.toNat (by omega) b.toNat (by omega) a.toNat (by omega)
  rw [show ((n.toNat : Nat) : Int) = n by omega, show ((a.toNat : Nat) : Int) = a by omega, show ((b.toNat : Nat) : Int) = b by omega] at this
  exact leafI_sat this
abbrev s_num : PureT := spec [cI, cI, cI] [cI] (fun x => okN x.1 x.2.1 x.2.2.1) (fun x => (numW x.1 x.2.1 x.2.2.1, ()))
theorem q_rnum : PureOk Try.prog nNu s_num := q_by X_nu_ok 6 (fun x => T_nu x.1 x.2.1 x.2.2.1) (fun x => by kernel_rfl) fun x h _ => nu_ok x.1 x.2.1 x.2.2.1 h
end Ev
end V
end Go.Proofs.Ytgchccljmjmibaa
