/- Chapter 11: places: partition: what its loops do. -/
import Derived.Test.YtgchccljmjmibaaGh
namespace Go.Proofs.Ytgchccljmjmibaa
open Go.RowKit
namespace V
namespace Ev
open Go.Sort (scanUp scanDown partLoop swp)
section
variable {E : Type} (ex : GPt → E) (z : BAm) (hz : (z.1.length : Int) ≤ 100) (a : Nat)
include hz
theorem up_run (A : Array Row) (ha : a < A.size) (hA : A.size ≤ 1000) (j : Nat) (hj : j < A.size) : ∀ (k i n : Nat), j + 1 - i = k → i ≤ 1000 → k + 1 ≤ n →
    iter (st_up ex) n (hd_pt z a A.toList i j) = some (ex (hd_pt z a A.toList (scanUp (fun x => ltV z x A[a]!) A j i : Nat) j))
  | k, i, n + 1, hk, hi, hn => by
    have hs : st_up ex (hd_pt z a A.toList i j) = sm_up ex z a A.toList i j := rfl
    rw [scanUp]
    by_cases hij : i ≤ j
    · have hs2 : sm_up ex z a A.toList i j = bif ltV z A[i]! A[a]! then .leaf (.inl (hd_pt z a A.toList (W64 ((i : Int) + 1)) j)) else .leaf (.inr (ex (hd_pt z a A.toList i j))) := by
        unfold sm_up
        rw [decide_eq_true (show (i : Int) ≤ (j : Int) by omega), cond_true, cpT_run z hz A i a (by omega) ha]
      cases hl : ltV z A[i]! A[a]! with
      | false =>
        rw [if_neg (by simp)]
        exact iter_out (by rw [hs, hs2, hl]; rfl)
      | true =>
        rw [if_pos (by simp [hij])]
        rw [iter_in (g' := hd_pt z a A.toList ((i + 1 : Nat) : Int) j) (by rw [hs, hs2, hl, W64_id (n := (i : Int) + 1) (by omega) (by omega)]; rfl)]
        exact up_run A ha hA j hj (k - 1) (i + 1) n (by omega) (by omega) (by omega)
    · rw [if_neg (by simp [hij])]
      refine iter_out ?_
      rw [hs]
      unfold sm_up
      rw [decide_eq_false (show ¬ (i : Int) ≤ (j : Int) by omega)]
      rfl
theorem dn_run (A : Array Row) (ha : a < A.size) (hA : A.size ≤ 1000) (i : Nat) (hi : 1 ≤ i) : ∀ (j n : Nat), j < A.size → j + 1 - i + 1 ≤ n →
    iter (st_dn ex) n (hd_pt z a A.toList i j) = some (ex (hd_pt z a A.toList i (scanDown (fun x => !ltV z x A[a]!) A i j : Nat)))
  | 0, n + 1, hj, hn => by
    refine iter_out ?_
    show (sm_dn ex z a A.toList i ((0 : Nat) : Int)).run = _
    unfold sm_dn
    rw [decide_eq_false (show ¬ (i : Int) ≤ ((0 : Nat) : Int) by omega)]
    rfl
  | j + 1, n + 1, hj, hn => by
    have hs : st_dn ex (hd_pt z a A.toList i ((j + 1 : Nat) : Int)) = sm_dn ex z a A.toList i ((j + 1 : Nat) : Int) := rfl
    rw [scanDown]
    by_cases hij : i ≤ j + 1
    · have hs2 : sm_dn ex z a A.toList i ((j + 1 : Nat) : Int) = bif !ltV z A[j + 1]! A[a]! then .leaf (.inl (hd_pt z a A.toList i (W64 (((j + 1 : Nat) : Int) - 1)))) else .leaf (.inr (ex (hd_pt z a A.toList i ((j + 1 : Nat) : Int)))) := by
        unfold sm_dn
        rw [decide_eq_true (show (i : Int) ≤ ((j + 1 : Nat) : Int) by omega), cond_true, cpT_run z hz A (j + 1) a hj ha]
      cases hl : ltV z A[j + 1]! A[a]! with
      | true =>
        rw [if_neg (by simp)]
        exact iter_out (by rw [hs, hs2, hl]; rfl)
      | false =>
        rw [if_pos (by simp [hij])]
        rw [iter_in (g' := hd_pt z a A.toList i j) (by rw [hs, hs2, hl, W64_pred j (by omega)]; rfl)]
        exact dn_run A ha hA i hi j n (by omega) (by omega)
    · rw [if_neg (by simp [hij])]
      refine iter_out ?_
      rw [hs]
      unfold sm_dn
      rw [decide_eq_false (show ¬ (i : Int) ≤ ((j + 1 : Nat) : Int) by omega)]
      rfl
end
/-- where both scans stop -/
theorem two_scans (lt : Row → Row → Bool) (A : Array Row) (a i j : Nat) (hi : 1 ≤ i) (hij : i ≤ j + 1) :
    i ≤ scanUp (fun x => lt x A[a]!) A j i ∧ scanUp (fun x => lt x A[a]!) A j i ≤ j + 1 ∧ scanDown (fun x => !lt x A[a]!) A (scanUp (fun x => lt x A[a]!) A j i) j ≤ j ∧ scanUp (fun x => lt x A[a]!) A j i ≤ scanDown (fun x => !lt x A[a]!) A (scanUp (fun x => lt x A[a]!) A j i) j + 1 ∧
    (¬ scanUp (fun x => lt x A[a]!) A j i > scanDown (fun x => !lt x A[a]!) A (scanUp (fun x => lt x A[a]!) A j i) j → scanUp (fun x => lt x A[a]!) A j i < scanDown (fun x => !lt x A[a]!) A (scanUp (fun x => lt x A[a]!) A j i) j) := by
  obtain ⟨h1, h2, h3, h4, _, _, h7⟩ := Go.Sort.round_facts (fun x => lt x A[a]!) (fun x => !lt x A[a]!) (fun _ => rfl) A (i - 1) 0 i j (by omega) hij (fun t h1 h2 => by omega) (fun t h1 h2 => by omega)
  exact ⟨h1, h2, h3, h4, fun h => (h7 h).2.2⟩
theorem fu_hd (z : BAm) (a : Int) (d : Rows) (i j : Nat) : fu_pt (hd_pt z a d i j) = j + 1 - i + 1 := by
  show ((j : Int) + 1 - i).toNat + 1 = _
  omega
theorem p2_run (z : BAm) (hz : (z.1.length : Int) ≤ 100) (a : Nat) : ∀ (k i j n : Nat) (A : Array Row), j + 1 - i ≤ k → a < i → i ≤ j + 1 → j < A.size → A.size ≤ 1000 → k + 1 ≤ n →
    iter st_p2 n (hd_pt z a A.toList i j) = some (ex_p2 z a (partLoop (ltV z) a i j A).2.toList (partLoop (ltV z) a i j A).1)
  | k, i, j, n + 1, A, hk, hai, hij, hj, hA, hn => by
    rw [Go.Sort.partLoop_eq]
    obtain ⟨h1, h2, h3, h4, h5⟩ := two_scans (ltV z) A a i j (by omega) hij
    have r1 := up_run ex_p3 z hz a A (by omega) hA j hj (j + 1 - i) i (j + 1 - i + 1) rfl (by omega) (Nat.le_refl _)
    generalize scanUp (fun x => ltV z x A[a]!) A j i = u at h1 h2 h3 h4 h5 r1 ⊢
    have r2 := dn_run ex_p4 z hz a A (by omega) hA u (by omega) j (j + 1 - u + 1) hj (Nat.le_refl _)
    generalize scanDown (fun x => !ltV z x A[a]!) A u j = v at h3 h4 h5 r2 ⊢
    have hs : st_p2 (hd_pt z a A.toList i j) = fi_p2 z a A.toList u v := by
      unfold st_p2
      rw [fu_hd, r1]
      show dn_p2 (hd_pt z a A.toList u j) = _
      unfold dn_p2
      rw [fu_hd, r2]
      rfl
    by_cases huv : u > v
    · rw [if_pos huv]
      refine iter_out ?_
      rw [hs]
      unfold fi_p2
      rw [decide_eq_true (show (u : Int) > (v : Int) by omega)]
      rfl
    · rw [if_neg huv]
      have h6 := h5 huv
      match v, h6 with
      | v + 1, h6 =>
        have hs2 : (fi_p2 z a A.toList u ((v + 1 : Nat) : Int)).run = some (.inl (hd_pt z a (swp A u (v + 1)).toList ((u + 1 : Nat) : Int) v)) := by
          unfold fi_p2
          rw [decide_eq_false (show ¬ (u : Int) > ((v + 1 : Nat) : Int) by omega), cond_false, swT_run A u (v + 1) (by omega) (by omega), W64_pred v (by omega), W64_id (n := (u : Int) + 1) (by omega) (by omega)]
          rfl
        rw [iter_in (by rw [hs]; exact hs2)]
        have hsz : (swp A u (v + 1)).size = A.size := swp_size _ _ _
        exact p2_run z hz a (k - 1) (u + 1) v n (swp A u (v + 1)) (by omega) (by omega) (by omega) (by omega) (by omega) (by omega)
end Ev
end V
end Go.Proofs.Ytgchccljmjmibaa
