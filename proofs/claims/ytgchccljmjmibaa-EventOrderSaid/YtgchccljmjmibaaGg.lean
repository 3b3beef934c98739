/- Chapter 11: places: insertion sort, as it is sorted. -/
import Derived.Test.YtgchccljmjmibaaGf
namespace Go.Proofs.Ytgchccljmjmibaa
open Go.RowKit
namespace V
namespace Ev
instance inhRow : Inhabited Row := ⟨dflt cRow⟩
/-- a row comes before another one -/
def ltV (z : BAm) (a b : Row) : Bool := befV z.2.1 z.2.2 z.1 a b
theorem cmp_lt (z : BAm) (a b : Row) : decide (cmpV z.2.1 z.2.2 z.1 a b < 0) = ltV z a b := by
  unfold cmpV ltV
  cases befV z.2.1 z.2.2 z.1 a b with
  | true => rfl
  | false => cases befV z.2.1 z.2.2 z.1 b a <;> rfl
theorem gR_arr (A : Array Row) (i : Nat) (h : i < A.size) : gR A.toList i = A[i]! := by
  show getA A.toList (Int.toNat (i : Int)) (dflt cRow) = _
  rw [show Int.toNat (i : Int) = i by omega, getA_lt (by simpa using h)]
  simp [h]
theorem set_arr (A : Array Row) (i : Nat) (x : Row) : setA A.toList (Int.toNat (i : Int)) x = (A.setIfInBounds i x).toList := by
  rw [show Int.toNat (i : Int) = i by omega, setA_eq]
  simp
theorem inO_in {β : Type} {n : Nat} {i : Nat} {t : Tree β} (h : i < n) : inO n (i : Int) t = t := by
  unfold inO
  rw [decide_eq_true (show 0 ≤ (i : Int) ∧ (i : Int) < (n : Int) by omega), decide_eq_true (show Int.toNat (i : Int) < n by omega)]
  rfl
theorem swT_run {β : Type} (A : Array Row) (i j : Nat) (hi : i < A.size) (hj : j < A.size) (K : Rows → Tree β) : swT A.toList i j K = K (Go.Sort.swp A i j).toList := by
  unfold swT
  have hl : A.toList.length = A.size := by simp
  rw [inO_in (by rw [hl]; exact hj), inO_in (by rw [hl]; exact hi), inO_in (by rw [hl]; exact hi), inO_in (by rw [setA_length, hl]; exact hj), gR_arr A i hi, gR_arr A j hj, set_arr, set_arr]
  rfl
theorem cpT_run {β : Type} (z : BAm) (hz : (z.1.length : Int) ≤ 100) (A : Array Row) (i j : Nat) (hi : i < A.size) (hj : j < A.size) (K : Bool → Tree β) : cpT z A.toList i j K = K (ltV z A[i]! A[j]!) := by
  unfold cpT lnO
  have hl : A.toList.length = A.size := by simp
  rw [inO_in (by rw [hl]; exact hi), inO_in (by rw [hl]; exact hj), decide_eq_true hz, cond_true, cmp_lt, gR_arr A i hi, gR_arr A j hj]
theorem swp_size (A : Array Row) (i j : Nat) : (Go.Sort.swp A i j).size = A.size := by unfold Go.Sort.swp; simp
theorem W64_pred (j : Nat) (h : j + 1 ≤ 1000) : W64 (((j + 1 : Nat) : Int) - 1) = (j : Int) := by
  rw [W64_id (by omega) (by omega)]
  omega
/-- the inner loop -/
theorem i1_run (z : BAm) (hz : (z.1.length : Int) ≤ 100) (a : Nat) (b i : Int) : ∀ (j : Nat) (A : Array Row) (n : Nat), j < A.size → A.size ≤ 1000 → j + 1 ≤ n →
    iter st_i1 n (hd_i1 z a b i A.toList j) = some (ex_i1 z a b i (Go.Sort.insInner (ltV z) a j A).toList)
  | 0, A, n + 1, _, _, _ => by
    refine iter_out ?_
    show (sm_i1 z a b i A.toList ((0 : Nat) : Int)).run = _
    unfold sm_i1
    rw [decide_eq_false (show ¬ (((0 : Nat) : Int) > (a : Int)) by omega)]
    rfl
  | j + 1, A, n + 1, hj, hA, hn => by
    have hs : st_i1 (hd_i1 z a b i A.toList ((j + 1 : Nat) : Int)) = bif decide (j + 1 > a) then (bif ltV z A[j + 1]! A[j]! then .leaf (.inl (hd_i1 z a b i (Go.Sort.swp A (j + 1) j).toList j)) else .leaf (.inr (ex_i1 z a b i A.toList))) else .leaf (.inr (ex_i1 z a b i A.toList)) := by
      show sm_i1 z a b i A.toList ((j + 1 : Nat) : Int) = _
      unfold sm_i1
      rw [W64_pred j (by omega), cpT_run z hz A (j + 1) j hj (by omega), swT_run A (j + 1) j hj (by omega)]
      rw [show decide (((j + 1 : Nat) : Int) > (a : Int)) = decide (j + 1 > a) from decide_eq_decide.2 (by omega)]
    unfold Go.Sort.insInner
    cases ha : decide (j + 1 > a) with
    | false =>
      rw [iter_out (e := ex_i1 z a b i A.toList) (by rw [hs, ha]; rfl)]
      simp
    | true =>
      cases hl : ltV z A[j + 1]! A[j]! with
      | false =>
        rw [iter_out (e := ex_i1 z a b i A.toList) (by rw [hs, ha, hl]; rfl)]
        simp
      | true =>
        rw [iter_in (g' := hd_i1 z a b i (Go.Sort.swp A (j + 1) j).toList j) (by rw [hs, ha, hl]; rfl)]
        rw [i1_run z hz a b i j (Go.Sort.swp A (j + 1) j) n (by rw [swp_size]; omega) (by rw [swp_size]; omega) (by omega)]
        simp
theorem insInner_size (lt : Row → Row → Bool) (a : Nat) : ∀ (j : Nat) (A : Array Row), (Go.Sort.insInner lt a j A).size = A.size
  | 0, A => rfl
  | j + 1, A => by
    unfold Go.Sort.insInner
    split
    · rw [insInner_size lt a j, swp_size]
    · rfl
/-- the outer loop -/
theorem i0_run (z : BAm) (hz : (z.1.length : Int) ≤ 100) (a b : Nat) : ∀ (k i : Nat) (A : Array Row) (n : Nat), b - i = k → b ≤ A.size → A.size ≤ 1000 → k + 1 ≤ n →
    iter st_i0 n (hd_i0 z a b A.toList i) = some (ex_i0 z (Go.Sort.insOuter (ltV z) a b i A).toList)
  | k, i, A, n + 1, hk, hb, hA, hn => by
    rw [Go.Sort.insOuter]
    by_cases hi : i < b
    · rw [if_pos hi]
      match k, hk with
      | 0, hk => omega
      | k + 1, hk =>
        rw [iter_in (g' := hd_i0 z a b (Go.Sort.insInner (ltV z) a i A).toList ((i + 1 : Nat) : Int)) (by
          show (sm_i0 z a b A.toList i).run = _
          unfold sm_i0
          rw [decide_eq_true (show (i : Int) < (b : Int) by omega), i1_run z hz a b i i A _ (by omega) hA (by omega)]
          show some (Sum.inl (hd_i0 z a b (Go.Sort.insInner (ltV z) a i A).toList (W64 ((i : Int) + 1)))) = _
          rw [W64_id (n := (i : Int) + 1) (by omega) (by omega)]
          rfl)]
        exact i0_run z hz a b k (i + 1) _ n (by omega) (by rw [insInner_size]; exact hb) (by rw [insInner_size]; exact hA) (by omega)
    · rw [if_neg hi]
      refine iter_out ?_
      show (sm_i0 z a b A.toList i).run = _
      unfold sm_i0
      rw [decide_eq_false (show ¬ (i : Int) < (b : Int) by omega)]
      rfl
end Ev
end V
end Go.Proofs.Ytgchccljmjmibaa
