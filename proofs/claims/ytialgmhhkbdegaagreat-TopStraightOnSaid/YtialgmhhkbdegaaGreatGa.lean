/- Chances with bounds: the small functions of tactics and of its reference. -/
import Derived.Test.YtialgmhhkbdegaaGreatZa
namespace Go.Proofs.YtialgmhhkbdegaaGreat
open Go.RowKit
namespace V
abbrev cC : TC := .st [cI, cI]
abbrev cCs : TC := .sl cC
abbrev Ch : Type := Int × Int
def mk (c : Ch) : TCT cC := (c.1, c.2, ())
def un (c : TCT cC) : Ch := (c.1, c.2.1)
theorem un_mk (c : Ch) : un (mk c) = c := rfl
theorem mk_un (c : TCT cC) : mk (un c) = c := rfl
theorem is_bad : FnIs Tryz.prog (39, Tryz.f39) := ⟨Tryz.func39, by kernel_rfl, by kernel_rfl⟩
theorem is_bounds : FnIs Tryz.prog (40, Tryz.f40) := ⟨Tryz.func40, by kernel_rfl, by kernel_rfl⟩
theorem is_bounds1 : FnIs Tryz.prog (58, Tryz.f58) := ⟨Tryz.func58, by kernel_rfl, by kernel_rfl⟩
theorem is_bounds2 : FnIs Tryz.prog (59, Tryz.f59) := ⟨Tryz.func59, by kernel_rfl, by kernel_rfl⟩
theorem is_bounds3 : FnIs Tryz.prog (60, Tryz.f60) := ⟨Tryz.func60, by kernel_rfl, by kernel_rfl⟩
theorem is_bounds4 : FnIs Tryz.prog (61, Tryz.f61) := ⟨Tryz.func61, by kernel_rfl, by kernel_rfl⟩
theorem is_times : FnIs Tryz.prog (24, Tryz.f24) := ⟨Tryz.func24, by kernel_rfl, by kernel_rfl⟩
theorem is_tChance : FnIs Tryz.prog (6, Tryz.f6) := ⟨Tryz.func6, by kernel_rfl, by kernel_rfl⟩
/-! what is computed -/
def dn (n : Int) : Int := n / 1000000
def up (n : Int) : Int := (n + 999999) / 1000000
def timesF (c d : Ch) (g : Int) : Ch := (dn (c.1 * (d.1 + g)), up (c.2 * (d.2 + g)))
def notF (c : Ch) : Ch := (1000000 - c.2, 1000000 - c.1)
def validC (c : Ch) : Bool := decide (0 ≤ c.1 ∧ c.1 ≤ c.2 ∧ c.2 ≤ 1000000)
/-- bounds from 0 to a million -/
def fitC (c : Ch) : Bool := decide (0 ≤ c.1 ∧ c.1 ≤ 1000000 ∧ 0 ≤ c.2 ∧ c.2 ≤ 1000000)
def gainOk (d : Ch) (g : Int) : Bool := decide (0 ≤ d.1 + g ∧ d.1 + g ≤ 100000000 ∧ 0 ≤ d.2 + g ∧ d.2 + g ≤ 100000000)
theorem fit_valid {c : Ch} (h : validC c = true) : fitC c = true := by
  have := of_decide_eq_true h
  exact decide_eq_true (by omega)
theorem mul_le' {a b m : Int} (h : 0 ≤ a ∧ a ≤ 1000000) (k : 0 ≤ b ∧ b ≤ m) : 0 ≤ a * b ∧ a * b ≤ 1000000 * m := by
  refine ⟨Int.mul_nonneg h.1 k.1, ?_⟩
  have h1 : a * b ≤ 1000000 * b := Int.mul_le_mul_of_nonneg_right h.2 k.1
  have h2 : 1000000 * b ≤ 1000000 * m := Int.mul_le_mul_of_nonneg_left k.2 (by omega)
  omega
theorem tdiv_dn {n : Int} (h : 0 ≤ n ∧ n ≤ 100000000000000) : W64 (Int.tdiv (W64 n) 1000000) = dn n := by
  rw [W64_id (n := n) (by omega) (by omega), Int.tdiv_eq_ediv_of_nonneg h.1]
  exact W64_id (by omega) (by omega)
theorem tdiv_up {n : Int} (h : 0 ≤ n ∧ n ≤ 100000000000000) : W64 (Int.tdiv (W64 (W64 (W64 n + 1000000) - 1)) 1000000) = up n := by
  rw [W64_id (n := n) (by omega) (by omega), W64_id (n := n + 1000000) (by omega) (by omega), show n + 1000000 - 1 = n + 999999 by omega, W64_id (n := n + 999999) (by omega) (by omega), Int.tdiv_eq_ediv_of_nonneg (by omega)]
  exact W64_id (by omega) (by omega)

abbrev s_bad : PureT := spec [cC] [.b] (fun _ => true) (fun x => (!validC (un x.1), ()))
def T_bad (lo hi : Int) : Tree (Bool × Unit) := bif decide (lo < 0) then .leaf (true, ()) else bif decide (hi < lo) then .leaf (true, ()) else .leaf (decide (hi > 1000000), ())
theorem T_bad_ok (lo hi : Int) : (T_bad lo hi).sat (fun y => y = (!validC (lo, hi), ())) := by
  unfold T_bad validC
  refine sat_cond (fun h => sat_leaf ?_) (fun h => sat_cond (fun h2 => sat_leaf ?_) (fun h2 => sat_leaf ?_))
  · have := of_decide_eq_true h; rw [decide_eq_false (by omega)]; rfl
  · have := of_decide_eq_true h2; rw [decide_eq_false (by omega)]; rfl
  · have := of_decide_eq_false h; have := of_decide_eq_false h2
    rw [← decide_not]; congr 1; apply decide_eq_decide.2; omega
theorem q_bad : PureOk Tryz.prog 39 s_bad := q_by (ctx_ok mixed puOk_nil (fns_cons is_bad fns_nil)) 2 (fun x => T_bad x.1.1 x.1.2.1) (fun x => by kernel_rfl) fun _ _ _ => T_bad_ok _ _
abbrev s_valid : PureT := spec [cC] [.b] (fun _ => true) (fun x => (validC (un x.1), ()))
def T_valid (lo hi : Int) : Tree (Bool × Unit) := bif decide (lo ≥ 0) then bif decide (lo ≤ hi) then .leaf (decide (hi ≤ 1000000), ()) else .leaf (false, ()) else .leaf (false, ())
theorem T_valid_ok (lo hi : Int) : (T_valid lo hi).sat (fun y => y = (validC (lo, hi), ())) := by
  unfold T_valid validC
  refine sat_cond (fun h => sat_cond (fun h2 => sat_leaf ?_) (fun h2 => sat_leaf ?_)) (fun h => sat_leaf ?_)
  · have := of_decide_eq_true h; have := of_decide_eq_true h2; congr 1; apply decide_eq_decide.2; omega
  · have := of_decide_eq_false h2; rw [decide_eq_false (by omega)]
  · have := of_decide_eq_false h; rw [decide_eq_false (by omega)]
abbrev s_notC : PureT := spec [cC] [cC] (fun x => fitC (un x.1)) (fun x => (((notF (un x.1)).1, (notF (un x.1)).2, ()), ()))
abbrev s_b1 : PureT := spec [cI] [cI] (fun _ => true) (fun x => (W64 (Int.tdiv x.1 1000000), ()))
theorem q_b1 : PureOk Tryz.prog 58 s_b1 := q_leaf (ctx_ok mixed puOk_nil (fns_cons is_bounds1 fns_nil)) 2 (fun x => by kernel_rfl)
abbrev s_b3 : PureT := spec [cI] [cI] (fun _ => true) (fun x => (W64 (Int.tdiv (W64 (W64 (x.1 + 1000000) - 1)) 1000000), ()))
theorem q_b3 : PureOk Tryz.prog 60 s_b3 := q_leaf (ctx_ok mixed puOk_nil (fns_cons is_bounds3 fns_nil)) 2 (fun x => by kernel_rfl)
theorem q_b2 : PureOk Tryz.prog 59 (ptrAt 0) := q_ptr (ctx_ok mixed puOk_nil (fns_cons is_bounds2 fns_nil)) 2 (fun id row st col => by kernel_rfl)
theorem q_b4 : PureOk Tryz.prog 61 (ptrAt 1) := q_ptr (ctx_ok mixed puOk_nil (fns_cons is_bounds4 fns_nil)) 2 (fun id row st col => by kernel_rfl)
abbrev s_Down : PureT := spec [cI, cI] [cI] (fun x => decide (x.2.1 ≠ 0)) (fun x => (W64 (Int.tdiv x.1 x.2.1), ()))
abbrev s_Up : PureT := spec [cI, cI] [cI] (fun x => decide (x.2.1 ≠ 0)) (fun x => (W64 (Int.tdiv (W64 (W64 (x.1 + x.2.1) - 1)) x.2.1), ()))
/-! products -/
def plTi : List (Nat × PureT) := [(58, s_b1), (59, ptrAt 0), (60, s_b3), (61, ptrAt 1)]
theorem puTi : PuOk Tryz.prog plTi := puOk_cons is_bounds1.plain q_b1 (puOk_cons is_bounds2.plain q_b2 (puOk_cons is_bounds3.plain q_b3 (puOk_cons is_bounds4.plain q_b4 puOk_nil)))
end V
end Go.Proofs.YtialgmhhkbdegaaGreat
