/- Records and lists of chances: plain laws. -/
import Derived.Test.YtialgmhhkbdegaaGreatGf
namespace Go.Proofs.YtialgmhhkbdegaaGreat
open Go.RowKit
namespace V
/-! products grow with their factors -/
theorem mul_le2 {a b c d : Int} (h0 : 0 ≤ a) (h1 : a ≤ c) (h2 : 0 ≤ b) (h3 : b ≤ d) : a * b ≤ c * d :=
  Int.le_trans (Int.mul_le_mul_of_nonneg_right h1 h2) (Int.mul_le_mul_of_nonneg_left h3 (Int.le_trans h0 h1))
theorem dn_mono {a b : Int} (h : a ≤ b) : dn a ≤ dn b := Int.ediv_le_ediv (by omega) h
theorem up_mono {a b : Int} (h : a ≤ b) : up a ≤ up b := Int.ediv_le_ediv (by omega) (by omega)
theorem dn_up (a : Int) : dn a ≤ up a := Int.ediv_le_ediv (by omega) (by omega)
/-- the first bounds lie between the second ones -/
def In (a b : Ch) : Prop := b.1 ≤ a.1 ∧ a.2 ≤ b.2
theorem times_in {a b c d : Ch} (ha : fitC a = true) (hb : fitC b = true) (hc : fitC c = true) (hd : fitC d = true) (h : In a b) (k : In c d) : In (timesF a c 0) (timesF b d 0) := by
  have ha := of_decide_eq_true ha
  have hb := of_decide_eq_true hb
  have hc := of_decide_eq_true hc
  have hd := of_decide_eq_true hd
  unfold In at *
  simp only [timesF, Int.add_zero]
  exact ⟨dn_mono (mul_le2 (by omega) h.1 (by omega) k.1), up_mono (mul_le2 (by omega) h.2 (by omega) k.2)⟩
theorem times_valid {a c : Ch} (ha : validC a = true) (hc : validC c = true) : validC (timesF a c 0) = true := by
  have h1 := of_decide_eq_true (timesF_fit (fit_valid ha) (fit_valid hc))
  have ha := of_decide_eq_true ha
  have hc := of_decide_eq_true hc
  refine decide_eq_true ⟨by omega, ?_, by omega⟩
  simp only [timesF, Int.add_zero]
  exact Int.le_trans (dn_mono (mul_le2 (a := a.1) (b := c.1) (c := a.2) (d := c.2) (by omega) (by omega) (by omega) (by omega))) (dn_up _)
theorem allF_valid : ∀ (l : List (TCT cC)) {o : Ch}, validL l = true → validC o = true → validC (allF l o) = true
  | [], _, _, h => h
  | x :: l, o, hl, ho => by
    simp only [validL, List.all_cons, Bool.and_eq_true_iff] at hl
    exact allF_valid l hl.2 (times_valid ho hl.1)
/-- lists of which each lies between the other's -/
inductive InL : List (TCT cC) → List (TCT cC) → Prop
  | nil : InL [] []
  | cons {x y : TCT cC} {l m : List (TCT cC)} : In (un x) (un y) → InL l m → InL (x :: l) (y :: m)
theorem allF_in {l m : List (TCT cC)} (h : InL l m) : ∀ {o p : Ch}, fitL l = true → fitL m = true → fitC o = true → fitC p = true → In o p → In (allF l o) (allF m p) := by
  induction h with
  | nil => exact fun _ _ _ _ h => h
  | cons h _ ih =>
    intro o p hl hm ho hp hi
    simp only [fitL, List.all_cons, Bool.and_eq_true_iff] at hl hm
    exact ih hl.2 hm.2 (timesF_fit ho hl.1) (timesF_fit hp hm.1) (times_in ho hp hl.1 hm.1 hi h)
theorem notL_in {l m : List (TCT cC)} (h : InL l m) : InL (notL l) (notL m) := by
  induction h with
  | nil => exact .nil
  | cons h _ ih => exact .cons (by unfold In at *; simp only [mk, un, notF] at *; omega) ih
theorem allF_snoc (l : List (TCT cC)) (x : TCT cC) (o : Ch) : allF (l ++ [x]) o = timesF (allF l o) (un x) 0 := by
  unfold allF
  rw [List.foldl_append]
  rfl
theorem timesF_le {a c : Ch} (ha : fitC a = true) (hc : fitC c = true) : (timesF a c 0).1 ≤ a.1 ∧ (timesF a c 0).2 ≤ a.2 := by
  have ha := of_decide_eq_true ha
  have hc := of_decide_eq_true hc
  have e1 : a.1 * c.1 ≤ a.1 * 1000000 := Int.mul_le_mul_of_nonneg_left (by omega) (by omega)
  have e2 : a.2 * c.2 ≤ a.2 * 1000000 := Int.mul_le_mul_of_nonneg_left (by omega) (by omega)
  simp only [timesF, dn, up, Int.add_zero]
  omega
/-! a record's chance -/
theorem rec_law {h n d m : Int} (h0 : 0 ≤ h) (hn : h ≤ n) (hd : 1 ≤ d) (hm : 1 ≤ m) :
    0 ≤ (recF h n d).1 ∧ (recF h n d).2 ≤ 1000000 ∧ (recF h n d).1 ≤ (recF h n d).2 ∧ (recF h n d).1 * n ≤ h * 1000000 ∧ h * 1000000 ≤ (recF h n d).2 * n ∧ (recF (m * h) (m * n) d).2 - (recF (m * h) (m * n) d).1 ≤ (recF h n d).2 - (recF h n d).1 + 2 := by
  simp only [recF]
  generalize e1 : h * 1000000 / (n + d) = lo
  generalize e2 : ((h + d) * 1000000 + (n + d) - 1) / (n + d) = hi
  generalize e3 : m * h * 1000000 / (m * n + d) = lo'
  generalize e4 : ((m * h + d) * 1000000 + (m * n + d) - 1) / (m * n + d) = hi'
  have p : 0 < n + d := by omega
  have hmn : n ≤ m * n := by
    have := Int.mul_le_mul_of_nonneg_right hm (show 0 ≤ n by omega)
    omega
  have p' : 0 < m * n + d := by omega
  have a1 : lo * (n + d) ≤ h * 1000000 := by rw [← e1]; exact Int.ediv_mul_le _ (by omega)
  have a2 : h * 1000000 < (lo + 1) * (n + d) := by rw [← e1]; exact Int.lt_ediv_add_one_mul_self _ p
  have b1 : hi * (n + d) ≤ (h + d) * 1000000 + (n + d) - 1 := by rw [← e2]; exact Int.ediv_mul_le _ (by omega)
  have b2 : (h + d) * 1000000 + (n + d) - 1 < (hi + 1) * (n + d) := by rw [← e2]; exact Int.lt_ediv_add_one_mul_self _ p
  have c2 : m * h * 1000000 < (lo' + 1) * (m * n + d) := by rw [← e3]; exact Int.lt_ediv_add_one_mul_self _ p'
  have d1 : hi' * (m * n + d) ≤ (m * h + d) * 1000000 + (m * n + d) - 1 := by rw [← e4]; exact Int.ediv_mul_le _ (by omega)
  have l0 : 0 ≤ lo := by rw [← e1]; exact Int.ediv_nonneg (by omega) (by omega)
  have b3 : (h + d) * 1000000 ≤ hi * (n + d) := by
    have : (hi + 1) * (n + d) = hi * (n + d) + (n + d) := by rw [Int.add_mul, Int.one_mul]
    omega
  have hi0 : 0 ≤ hi := by rw [← e2]; exact Int.ediv_nonneg (by omega) (by omega)
  refine ⟨l0, ?_, ?_, ?_, ?_, ?_⟩
  · refine Int.lt_add_one_iff.1 (Int.lt_of_mul_lt_mul_right (a := n + d) ?_ (by omega))
    have : (1000000 + 1) * (n + d) = 1000000 * (n + d) + (n + d) := by rw [Int.add_mul, Int.one_mul]
    omega
  · refine Int.le_of_mul_le_mul_right (a := n + d) ?_ p
    omega
  · have : lo * n ≤ lo * (n + d) := Int.mul_le_mul_of_nonneg_left (by omega) l0
    omega
  · refine Int.le_of_mul_le_mul_right (a := n + d) ?_ p
    have k1 : hi * n * (n + d) = hi * (n + d) * n := by rw [Int.mul_assoc, Int.mul_comm n, ← Int.mul_assoc]
    have k2 : (h + d) * 1000000 * n ≤ hi * (n + d) * n := Int.mul_le_mul_of_nonneg_right b3 (by omega)
    have k3 : h * d ≤ n * d := Int.mul_le_mul_of_nonneg_right hn (by omega)
    rw [k1]
    refine Int.le_trans ?_ k2
    have k4 : h * 1000000 * (n + d) = (h * n + h * d) * 1000000 := by grind
    have k5 : (h + d) * 1000000 * n = (h * n + n * d) * 1000000 := by grind
    omega
  · refine Int.lt_add_one_iff.1 (Int.lt_of_mul_lt_mul_right (a := m * n + d) ?_ (by omega))
    have f1 : (hi' - lo') * (m * n + d) = hi' * (m * n + d) - lo' * (m * n + d) := Int.sub_mul ..
    have f2 : (lo' + 1) * (m * n + d) = lo' * (m * n + d) + (m * n + d) := by rw [Int.add_mul, Int.one_mul]
    have f3 : (m * h + d) * 1000000 = m * h * 1000000 + d * 1000000 := Int.add_mul ..
    have g1 : d * 1000000 ≤ (hi - lo) * (n + d) := by
      have : (hi - lo) * (n + d) = hi * (n + d) - lo * (n + d) := Int.sub_mul ..
      have : (h + d) * 1000000 = h * 1000000 + d * 1000000 := Int.add_mul ..
      omega
    have hw : 0 ≤ hi - lo := by
      by_cases hc : 0 ≤ hi - lo
      · exact hc
      · have : (hi - lo) * (n + d) ≤ 0 * (n + d) := Int.mul_le_mul_of_nonneg_right (by omega) (by omega)
        omega
    have g2 : (hi - lo) * (n + d) ≤ (hi - lo) * (m * n + d) := Int.mul_le_mul_of_nonneg_left (by omega) hw
    have f4 : (hi - lo + 2 + 1) * (m * n + d) = (hi - lo) * (m * n + d) + 3 * (m * n + d) := by rw [show hi - lo + 2 + 1 = (hi - lo) + 3 by omega, Int.add_mul]
    omega
end V
end Go.Proofs.YtialgmhhkbdegaaGreat
