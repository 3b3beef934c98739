/- Chapter 11: places: a run in order; patterns: what the loops do. -/
import Derived.Test.YtgchccljmjmibaaGj
namespace Go.Proofs.Ytgchccljmjmibaa
open Go.RowKit
namespace V
namespace Ev
open Go.Sort (scanSorted swp PermIn)
theorem q1_run (z : BAm) (hz : (z.1.length : Int) ≤ 100) (a : Int) (b : Nat) (j : Int) (A : Array Row) (hb : b ≤ A.size) (hA : A.size ≤ 1000) : ∀ (k i n : Nat), b - i = k → 1 ≤ i → i ≤ 1000 → k + 1 ≤ n →
    iter st_q1 n (hd_pi z a b A.toList i j) = some (ex_q1 (hd_pi z a b A.toList (scanSorted (ltV z) A b i : Nat) j))
  | k, i, n + 1, hk, h1, hi, hn => by
    have hs : st_q1 (hd_pi z a b A.toList i j) = sm_q1 z a b A.toList i j := rfl
    rw [scanSorted]
    by_cases hib : i < b
    · have hs2 : sm_q1 z a b A.toList i j = bif !ltV z A[i]! A[i - 1]! then .leaf (.inl (hd_pi z a b A.toList (W64 ((i : Int) + 1)) j)) else .leaf (.inr (ex_q1 (hd_pi z a b A.toList i j))) := by
        unfold sm_q1
        rw [decide_eq_true (show (i : Int) < (b : Int) by omega), cond_true, show W64 ((i : Int) - 1) = ((i - 1 : Nat) : Int) by rw [W64_id (by omega) (by omega)]; omega, cpT_run z hz A i (i - 1) (by omega) (by omega)]
      cases hl : ltV z A[i]! A[i - 1]! with
      | true =>
        rw [if_neg (by simp)]
        exact iter_out (by rw [hs, hs2, hl]; rfl)
      | false =>
        rw [if_pos (by simp [hib])]
        rw [iter_in (g' := hd_pi z a b A.toList ((i + 1 : Nat) : Int) j) (by rw [hs, hs2, hl, W64_id (n := (i : Int) + 1) (by omega) (by omega)]; rfl)]
        exact q1_run z hz a b j A hb hA (k - 1) (i + 1) n (by omega) (by omega) (by omega) (by omega)
    · rw [if_neg (by simp [hib])]
      refine iter_out ?_
      rw [hs]
      unfold sm_q1
      rw [decide_eq_false (show ¬ (i : Int) < (b : Int) by omega)]
      rfl
theorem scanSorted_in (lt : Row → Row → Bool) (A : Array Row) (b : Nat) : ∀ (k i : Nat), b - i = k → i ≤ b → i ≤ scanSorted lt A b i ∧ scanSorted lt A b i ≤ b
  | k, i, hk, hi => by
    rw [scanSorted]
    split
    · rename_i h
      have h2 : i < b := by simp only [Bool.and_eq_true, decide_eq_true_eq] at h; exact h.1
      have := scanSorted_in lt A b (k - 1) (i + 1) (by omega) (by omega)
      exact ⟨by omega, this.2⟩
    · exact ⟨Nat.le_refl _, hi⟩
theorem q0_run (z : BAm) (hz : (z.1.length : Int) ≤ 100) (a b : Nat) (A : Array Row) (hab : a < b) (hb : b ≤ A.size) (hA : A.size ≤ 49) :
    iter st_q0 1 (hd_pi z a b A.toList ((a + 1 : Nat) : Int) 0) = some (rt_q0 z A.toList (decide (scanSorted (ltV z) A b (a + 1) = b))) := by
  refine iter_out ?_
  have hf : fu_q1 (hd_pi z a b A.toList ((a + 1 : Nat) : Int) 0) = b - (a + 1) + 1 := by
    show ((b : Int) - ((a + 1 : Nat) : Int)).toNat + 1 = _
    omega
  have r := q1_run z hz a b 0 A hb (by omega) (b - (a + 1)) (a + 1) (b - (a + 1) + 1) rfl (by omega) (by omega) (Nat.le_refl _)
  have hin := scanSorted_in (ltV z) A b _ (a + 1) rfl (by omega)
  generalize scanSorted (ltV z) A b (a + 1) = u at r hin ⊢
  have hs : st_q0 (hd_pi z a b A.toList ((a + 1 : Nat) : Int) 0) = fi_q0 z a b A.toList u 0 := by
    show (bif decide ((0 : Int) < 5) then (bif isE (.exit 2) (iter st_q1 (fu_q1 (hd_pi z a b A.toList ((a + 1 : Nat) : Int) 0)) (hd_pi z a b A.toList ((a + 1 : Nat) : Int) 0)) then fj_q0 (valE (E := E_q1) (.exit 2) (iter st_q1 (fu_q1 (hd_pi z a b A.toList ((a + 1 : Nat) : Int) 0)) (hd_pi z a b A.toList ((a + 1 : Nat) : Int) 0))) else .fail) else .fail) = _
    rw [hf, r]
    rfl
  rw [hs]
  unfold fi_q0
  by_cases h : u = b
  · rw [show ((u : Int) == (b : Int)) = true by rw [h]; exact beq_self_eq_true _, decide_eq_true h]
    rfl
  · rw [show ((u : Int) == (b : Int)) = false by rw [beq_eq_false_iff_ne]; omega, decide_eq_false h, W64_id (n := (b : Int) - (a : Int)) (by omega) (by omega), decide_eq_true (show (b : Int) - (a : Int) < 50 by omega)]
    rfl
theorem pis_eq (lt : Row → Row → Bool) (A : Array Row) (a b : Nat) (h : b - a < 50) : Go.Sort.partialInsertionSort lt A a b = (A, decide (scanSorted lt A b (a + 1) = b)) := by
  unfold Go.Sort.partialInsertionSort Go.Sort.partialIns
  by_cases h2 : scanSorted lt A b (a + 1) = b
  · simp [h2]
  · simp [h2, h]
/-! patterns -/
theorem anU_in (r : Int) (k : Nat) (hk : k ≤ 1000) : ∃ o : Nat, o ≤ k ∧ anU r ((k : Int) + 1) = (o : Int) := by
  refine ⟨(BitVec.ofInt 64 (xsN r) &&& BitVec.ofInt 64 (IntKind.wrap .u64 ((k : Int) + 1 - 1))).toNat, ?_, ?_⟩
  · rw [BitVec.toNat_and]
    refine Nat.le_trans Nat.and_le_right ?_
    rw [wrapU (n := (k : Int) + 1 - 1) (by omega) (by omega), BitVec.toNat_ofInt]
    omega
  · have hb : (BitVec.ofInt 64 (xsN r) &&& BitVec.ofInt 64 (IntKind.wrap .u64 ((k : Int) + 1 - 1))).toNat ≤ k := by
      rw [BitVec.toNat_and]
      refine Nat.le_trans Nat.and_le_right ?_
      rw [wrapU (n := (k : Int) + 1 - 1) (by omega) (by omega), BitVec.toNat_ofInt]
      omega
    show W64 (IntKind.wrap .u64 (((BitVec.ofInt 64 (xsN r) &&& BitVec.ofInt 64 (IntKind.wrap .u64 ((k : Int) + 1 - 1))).toNat : Nat) : Int)) = _
    generalize (BitVec.ofInt 64 (xsN r) &&& BitVec.ofInt 64 (IntKind.wrap .u64 ((k : Int) + 1 - 1))).toNat = o at hb ⊢
    rw [wrapU (n := (o : Int)) (by omega) (by omega), W64_id (by omega) (by omega)]
theorem bp_one (z : BAm) (a L k : Nat) (A : Array Row) (r : Int) (idx : Nat) (hL : 4 ≤ L) (hk2 : k + 1 ≤ 2 * L) (hA : a + L ≤ A.size) (hs : A.size ≤ 100) (hi : idx ≤ a + L / 4 * 2 + 1) (hi2 : idx < A.size) :
    ∃ o : Nat, o < L ∧ (st_bp (hd_bp z a L ((k : Int) + 1) A.toList r idx)).run = some (.inl (hd_bp z a L ((k : Int) + 1) (swp A idx (a + o)).toList (xsN r) ((idx + 1 : Nat) : Int))) := by
  obtain ⟨o, ho, he⟩ := anU_in r k (by omega)
  have hs1 : st_bp (hd_bp z a L ((k : Int) + 1) A.toList r idx) = sm_bp z a L ((k : Int) + 1) A.toList r idx := rfl
  have hc : decide ((idx : Int) ≤ W64 (W64 ((a : Int) + W64 (W64 (Int.tdiv (L : Int) 4) * 2)) + 1)) = true := by
    rw [Int.tdiv_eq_ediv_of_nonneg (by omega), W64_id (n := (L : Int) / 4) (by omega) (by omega), W64_id (n := (L : Int) / 4 * 2) (by omega) (by omega), W64_id (n := (a : Int) + (L : Int) / 4 * 2) (by omega) (by omega), W64_id (by omega) (by omega)]
    exact decide_eq_true (by omega)
  have ht : ∀ p : Nat, p < L → (ot_bp z a L ((k : Int) + 1) A.toList r idx (p : Int)).run = some (.inl (hd_bp z a L ((k : Int) + 1) (swp A idx (a + p)).toList (xsN r) ((idx + 1 : Nat) : Int))) := by
    intro p hp
    unfold ot_bp
    rw [W64_id (n := (a : Int) + (p : Int)) (by omega) (by omega), show (a : Int) + (p : Int) = ((a + p : Nat) : Int) by omega, swT_run A idx (a + p) hi2 (by omega), W64_id (n := (idx : Int) + 1) (by omega) (by omega)]
    rfl
  rw [hs1]
  unfold sm_bp
  rw [hc, he, cond_true]
  by_cases h : o ≥ L
  · refine ⟨o - L, by omega, ?_⟩
    rw [decide_eq_true (show (o : Int) ≥ (L : Int) by omega), cond_true, W64_id (n := (o : Int) - (L : Int)) (by omega) (by omega), show (o : Int) - (L : Int) = ((o - L : Nat) : Int) by omega]
    exact ht _ (by omega)
  · refine ⟨o, by omega, ?_⟩
    rw [decide_eq_false (show ¬ (o : Int) ≥ (L : Int) by omega), cond_false]
    exact ht _ (by omega)
theorem bp_end (z : BAm) (a L : Nat) (mo : Int) (A : Array Row) (r : Int) (i : Nat) (ha : a ≤ 1000) (hL : L ≤ 1000) (hi : i = a + L / 4 * 2 + 2) : iter st_bp 1 (hd_bp z a L mo A.toList r (i : Int)) = some (ex_bp z A.toList) := by
  refine iter_out ?_
  have hc : decide ((i : Int) ≤ W64 (W64 ((a : Int) + W64 (W64 (Int.tdiv (L : Int) 4) * 2)) + 1)) = false := by
    rw [Int.tdiv_eq_ediv_of_nonneg (by omega), W64_id (n := (L : Int) / 4) (by omega) (by omega), W64_id (n := (L : Int) / 4 * 2) (by omega) (by omega), W64_id (n := (a : Int) + (L : Int) / 4 * 2) (by omega) (by omega), W64_id (by omega) (by omega)]
    exact decide_eq_false (by omega)
  show (sm_bp z a L mo A.toList r (i : Int)).run = _
  unfold sm_bp
  rw [hc]
  rfl
theorem bp_run (z : BAm) (a L k : Nat) (A : Array Row) (r : Int) (hL : 8 ≤ L) (hk2 : k + 1 ≤ 2 * L) (hA : a + L ≤ A.size) (hs : A.size ≤ 100) :
    ∃ B : Array Row, PermIn a (a + L) A B ∧ iter st_bp 4 (hd_bp z a L ((k : Int) + 1) A.toList r ((a + L / 4 * 2 - 1 : Nat) : Int)) = some (ex_bp z B.toList) := by
  have h4 : 2 ≤ L / 4 := by omega
  generalize hi : a + L / 4 * 2 - 1 = i
  have hiL : i + 2 < a + L := by omega
  obtain ⟨o1, p1, q1⟩ := bp_one z a L k A r i (by omega) hk2 hA hs (by omega) (by omega)
  have s1 : (swp A i (a + o1)).size = A.size := swp_size _ _ _
  obtain ⟨o2, p2, q2⟩ := bp_one z a L k (swp A i (a + o1)) (xsN r) (i + 1) (by omega) hk2 (by omega) (by omega) (by omega) (by omega)
  have s2 : (swp (swp A i (a + o1)) (i + 1) (a + o2)).size = A.size := (swp_size _ _ _).trans s1
  obtain ⟨o3, p3, q3⟩ := bp_one z a L k (swp (swp A i (a + o1)) (i + 1) (a + o2)) (xsN (xsN r)) (i + 1 + 1) (by omega) hk2 (by omega) (by omega) (by omega) (by omega)
  refine ⟨swp (swp (swp A i (a + o1)) (i + 1) (a + o2)) (i + 1 + 1) (a + o3), ?_, ?_⟩
  · refine Go.Sort.permIn_trans _ _ _ a (a + L) (Go.Sort.permIn_trans _ _ _ a (a + L) (Go.Sort.swp_permIn A a (a + L) i (a + o1) (by omega) (by omega) (by omega) (by omega) (by omega)) (Go.Sort.swp_permIn _ a (a + L) (i + 1) (a + o2) (by omega) (by omega) (by omega) (by omega) (by omega))) (Go.Sort.swp_permIn _ a (a + L) (i + 1 + 1) (a + o3) (by omega) (by omega) (by omega) (by omega) (by omega))
  · rw [iter_in q1, iter_in q2, iter_in q3]
    exact bp_end z a L _ _ _ _ (by omega) (by omega) (by omega)
end Ev
end V
end Go.Proofs.Ytgchccljmjmibaa
