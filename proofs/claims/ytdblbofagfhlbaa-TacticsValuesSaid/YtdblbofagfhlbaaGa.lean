/- Chances with bounds: the small functions of tactics and of its reference. -/
import Derived.Test.YtdblbofagfhlbaaZa
namespace Go.Proofs.Ytdblbofagfhlbaa
open Go.RowKit
namespace V
abbrev cC : TC := .st [cI, cI]
abbrev cCs : TC := .sl cC
abbrev Ch : Type := Int × Int
def mk (c : Ch) : TCT cC := (c.1, c.2, ())
def un (c : TCT cC) : Ch := (c.1, c.2.1)
theorem un_mk (c : Ch) : un (mk c) = c := rfl
theorem mk_un (c : TCT cC) : mk (un c) = c := rfl
theorem is_bad : FnIs Try.prog (79, Try.f79) := ⟨Try.func79, by kernel_rfl, by kernel_rfl⟩
theorem is_notC : FnIs Try.prog (61, Try.f61) := ⟨Try.func61, by kernel_rfl, by kernel_rfl⟩
theorem is_bounds : FnIs Try.prog (86, Try.f86) := ⟨Try.func86, by kernel_rfl, by kernel_rfl⟩
theorem is_bounds1 : FnIs Try.prog (98, Try.f98) := ⟨Try.func98, by kernel_rfl, by kernel_rfl⟩
theorem is_bounds2 : FnIs Try.prog (99, Try.f99) := ⟨Try.func99, by kernel_rfl, by kernel_rfl⟩
theorem is_bounds3 : FnIs Try.prog (100, Try.f100) := ⟨Try.func100, by kernel_rfl, by kernel_rfl⟩
theorem is_bounds4 : FnIs Try.prog (101, Try.f101) := ⟨Try.func101, by kernel_rfl, by kernel_rfl⟩
theorem is_times : FnIs Try.prog (58, Try.f58) := ⟨Try.func58, by kernel_rfl, by kernel_rfl⟩
theorem is_tChance : FnIs Try.prog (12, Try.f12) := ⟨Try.func12, by kernel_rfl, by kernel_rfl⟩
theorem is_valid : FnIs Try.prog (80, Try.f80) := ⟨Try.func80, by kernel_rfl, by kernel_rfl⟩
theorem is_Down : FnIs Try.prog (55, Try.f55) := ⟨Try.func55, by kernel_rfl, by kernel_rfl⟩
theorem is_Up : FnIs Try.prog (56, Try.f56) := ⟨Try.func56, by kernel_rfl, by kernel_rfl⟩
theorem is_rChance : FnIs Try.prog (22, Try.f22) := ⟨Try.func22, by kernel_rfl, by kernel_rfl⟩

/-! what is computed -/
def dn (n : Int) : Int := n / 1000000
def up (n : Int) : Int := (n + 999999) / 1000000
def timesF (c d : Ch) (g : Int) : Ch := (dn (c.1 * (d.1 + g)), up (c.2 * (d.2 + g)))
def notF (c : Ch) : Ch := (1000000 - c.2, 1000000 - c.1)
def validC (c : Ch) : Bool := decide (0 ≤ c.1 ∧ c.1 ≤ c.2 ∧ c.2 ≤ 1000000)
/-- bounds from 0 to a million -/
def fitC (c : Ch) : Bool := decide (0 ≤ c.1 ∧ c.1 ≤ 1000000 ∧ 0 ≤ c.2 ∧ c.2 ≤ 1000000)
def gainOk (d : Ch) (g : Int) : Bool := decide (0 ≤ d.1 + g ∧ d.1 + g ≤ 100000000 ∧ 0 ≤ d.2 + g ∧ d.2 + g ≤ 100000000)
theorem fit_valid {c : Ch} (h : validC c = true) : fitC c = true := by
  have := of_decide_eq_true h
  exact decide_eq_true (by omega)
theorem mul_le' {a b m : Int} (h : 0 ≤ a ∧ a ≤ 1000000) (k : 0 ≤ b ∧ b ≤ m) : 0 ≤ a * b ∧ a * b ≤ 1000000 * m := by
  refine ⟨Int.mul_nonneg h.1 k.1, ?_⟩
  have h1 : a * b ≤ 1000000 * b := Int.mul_le_mul_of_nonneg_right h.2 k.1
  have h2 : 1000000 * b ≤ 1000000 * m := Int.mul_le_mul_of_nonneg_left k.2 (by omega)
  omega
theorem tdiv_dn {n : Int} (h : 0 ≤ n ∧ n ≤ 100000000000000) : W64 (Int.tdiv (W64 n) 1000000) = dn n := by
  rw [W64_id (n := n) (by omega) (by omega), Int.tdiv_eq_ediv_of_nonneg h.1]
  exact W64_id (by omega) (by omega)
theorem tdiv_up {n : Int} (h : 0 ≤ n ∧ n ≤ 100000000000000) : W64 (Int.tdiv (W64 (W64 (W64 n + 1000000) - 1)) 1000000) = up n := by
  rw [W64_id (n := n) (by omega) (by omega), W64_id (n := n + 1000000) (by omega) (by omega), show n + 1000000 - 1 = n + 999999 by omega, W64_id (n := n + 999999) (by omega) (by omega), Int.tdiv_eq_ediv_of_nonneg (by omega)]
  exact W64_id (by omega) (by omega)

abbrev s_bad : PureT := spec [cC] [.b] (fun _ => true) (fun x => (!validC (un x.1), ()))
def T_bad (lo hi : Int) : Tree (Bool × Unit) := bif decide (lo < 0) then .leaf (true, ()) else bif decide (hi < lo) then .leaf (true, ()) else .leaf (decide (hi > 1000000), ())
theorem T_bad_ok (lo hi : Int) : (T_bad lo hi).sat (fun y => y = (!validC (lo, hi), ())) := by
  unfold T_bad validC
  refine sat_cond (fun h => sat_leaf ?_) (fun h => sat_cond (fun h2 => sat_leaf ?_) (fun h2 => sat_leaf ?_))
  · have := of_decide_eq_true h; rw [decide_eq_false (by omega)]; rfl
  · have := of_decide_eq_true h2; rw [decide_eq_false (by omega)]; rfl
  · have := of_decide_eq_false h; have := of_decide_eq_false h2
    rw [← decide_not]; congr 1; apply decide_eq_decide.2; omega
theorem q_bad : PureOk Try.prog 79 s_bad := q_by (ctx_ok mixed puOk_nil (fns_cons is_bad fns_nil)) 2 (fun x => T_bad x.1.1 x.1.2.1) (fun x => by kernel_rfl) fun _ _ _ => T_bad_ok _ _
abbrev s_valid : PureT := spec [cC] [.b] (fun _ => true) (fun x => (validC (un x.1), ()))
def T_valid (lo hi : Int) : Tree (Bool × Unit) := bif decide (lo ≥ 0) then bif decide (lo ≤ hi) then .leaf (decide (hi ≤ 1000000), ()) else .leaf (false, ()) else .leaf (false, ())
theorem T_valid_ok (lo hi : Int) : (T_valid lo hi).sat (fun y => y = (validC (lo, hi), ())) := by
  unfold T_valid validC
  refine sat_cond (fun h => sat_cond (fun h2 => sat_leaf ?_) (fun h2 => sat_leaf ?_)) (fun h => sat_leaf ?_)
  · have := of_decide_eq_true h; have := of_decide_eq_true h2; congr 1; apply decide_eq_decide.2; omega
  · have := of_decide_eq_false h2; rw [decide_eq_false (by omega)]
  · have := of_decide_eq_false h; rw [decide_eq_false (by omega)]
theorem q_valid : PureOk Try.prog 80 s_valid := q_by (ctx_ok mixed puOk_nil (fns_cons is_valid fns_nil)) 2 (fun x => T_valid x.1.1 x.1.2.1) (fun x => by kernel_rfl) fun _ _ _ => T_valid_ok _ _
abbrev s_notC : PureT := spec [cC] [cC] (fun x => fitC (un x.1)) (fun x => (((notF (un x.1)).1, (notF (un x.1)).2, ()), ()))
theorem q_notC : PureOk Try.prog 61 s_notC := q_by (ctx_ok mixed puOk_nil (fns_cons is_notC fns_nil)) 2 (fun x => .leaf ((W64 (1000000 - x.1.2.1), W64 (1000000 - x.1.1), ()), ())) (fun x => by kernel_rfl) fun x h _ => by
  have := of_decide_eq_true h
  simp only [un] at this
  refine sat_leaf ?_
  simp only [notF, un]
  rw [W64_id (n := 1000000 - x.1.2.1) (by omega) (by omega), W64_id (n := 1000000 - x.1.1) (by omega) (by omega)]
abbrev s_b1 : PureT := spec [cI] [cI] (fun _ => true) (fun x => (W64 (Int.tdiv x.1 1000000), ()))
theorem q_b1 : PureOk Try.prog 98 s_b1 := q_leaf (ctx_ok mixed puOk_nil (fns_cons is_bounds1 fns_nil)) 2 (fun x => by kernel_rfl)
abbrev s_b3 : PureT := spec [cI] [cI] (fun _ => true) (fun x => (W64 (Int.tdiv (W64 (W64 (x.1 + 1000000) - 1)) 1000000), ()))
theorem q_b3 : PureOk Try.prog 100 s_b3 := q_leaf (ctx_ok mixed puOk_nil (fns_cons is_bounds3 fns_nil)) 2 (fun x => by kernel_rfl)
theorem q_b2 : PureOk Try.prog 99 (ptrAt 0) := q_ptr (ctx_ok mixed puOk_nil (fns_cons is_bounds2 fns_nil)) 2 (fun id row st col => by kernel_rfl)
theorem q_b4 : PureOk Try.prog 101 (ptrAt 1) := q_ptr (ctx_ok mixed puOk_nil (fns_cons is_bounds4 fns_nil)) 2 (fun id row st col => by kernel_rfl)
abbrev s_Down : PureT := spec [cI, cI] [cI] (fun x => decide (x.2.1 ≠ 0)) (fun x => (W64 (Int.tdiv x.1 x.2.1), ()))
theorem q_Down : PureOk Try.prog 55 s_Down := q_by (ctx_ok mixed puOk_nil (fns_cons is_Down fns_nil)) 2 (fun x => bif x.2.1 != 0 then .leaf (W64 (Int.tdiv x.1 x.2.1), ()) else .fail) (fun x => by kernel_rfl) fun x h _ => by
  have := of_decide_eq_true h
  refine sat_must (by simpa using this) (sat_leaf rfl)
abbrev s_Up : PureT := spec [cI, cI] [cI] (fun x => decide (x.2.1 ≠ 0)) (fun x => (W64 (Int.tdiv (W64 (W64 (x.1 + x.2.1) - 1)) x.2.1), ()))
theorem q_Up : PureOk Try.prog 56 s_Up := q_by (ctx_ok mixed puOk_nil (fns_cons is_Up fns_nil)) 2 (fun x => bif x.2.1 != 0 then .leaf (W64 (Int.tdiv (W64 (W64 (x.1 + x.2.1) - 1)) x.2.1), ()) else .fail) (fun x => by kernel_rfl) fun x h _ => by
  have := of_decide_eq_true h
  refine sat_must (by simpa using this) (sat_leaf rfl)

/-! products -/
def plTi : List (Nat × PureT) := [(98, s_b1), (99, ptrAt 0), (100, s_b3), (101, ptrAt 1)]
theorem puTi : PuOk Try.prog plTi := puOk_cons is_bounds1.plain q_b1 (puOk_cons is_bounds2.plain q_b2 (puOk_cons is_bounds3.plain q_b3 (puOk_cons is_bounds4.plain q_b4 puOk_nil)))
end V
end Go.Proofs.Ytdblbofagfhlbaa
