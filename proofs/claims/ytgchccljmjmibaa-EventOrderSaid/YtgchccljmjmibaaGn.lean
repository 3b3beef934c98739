/- Chapter 11: places: the sort: what the parts of its step do. -/
import Derived.Test.YtgchccljmjmibaaGl
namespace Go.Proofs.Ytgchccljmjmibaa
open Go.RowKit
namespace V
namespace Ev
open Go.Sort (scanUp scanDown scanSorted partLoop partition insertionSort swp PermIn SortedIn)
section
variable {β : Type} (z : BAm) (hz : (z.1.length : Int) ≤ 100)
include hz
theorem isT_run (A : Array Row) (a b : Nat) (hb : b ≤ A.size) (hA : A.size ≤ 1000) (ha : a ≤ 1000) (K : BAm → Rows → Tree β) : isT z A.toList a b K = K z (insertionSort (ltV z) A a b).toList := by
  unfold isT
  rw [W64_id (n := (a : Int) + 1) (by omega) (by omega), show (a : Int) + 1 = ((a + 1 : Nat) : Int) by omega, i0_run z hz a b (b - (a + 1)) (a + 1) A (Int.toNat (b : Int) + 1) rfl hb hA (by omega)]
  rfl
theorem rcT_run (A : Array Row) (a b : Nat) (lim : Int) (hb : b ≤ A.size) (hA : A.size ≤ 1000) (ha : a ≤ 1000) (h12 : b - a ≤ 12) (K : BAm → Rows → Tree β) : rcT z A.toList a b lim K = K z (insertionSort (ltV z) A a b).toList := by
  have h : iter st_d0 1 (hd_pd z A.toList a b lim true true) = some (ex_d0 z (insertionSort (ltV z) A a b).toList) := by
    refine iter_out ?_
    show (sm_d0 z A.toList a b lim true).run = _
    unfold sm_d0
    rw [W64_id (n := (b : Int) - (a : Int)) (by omega) (by omega), decide_eq_true (show (b : Int) - (a : Int) ≤ 12 by omega), cond_true, isT_run z hz A a b hb hA ha]
    rfl
  unfold rcT
  rw [h]
  rfl
theorem o2T_run (A : Array Row) (a b : Nat) (ha : a < A.size) (hb : b < A.size) (s : Nat) (K : Int → Int → Nat → Tree β) : ∃ x y s' : Nat, ((x = a ∧ y = b) ∨ (x = b ∧ y = a)) ∧ o2T z A.toList a b s K = K x y s' := by
  unfold o2T
  rw [cpT_run z hz A b a hb ha]
  cases ltV z A[b]! A[a]! with
  | true => exact ⟨b, a, s + 1, .inr ⟨rfl, rfl⟩, rfl⟩
  | false => exact ⟨a, b, s, .inl ⟨rfl, rfl⟩, rfl⟩
theorem mdT_run (A : Array Row) (a b c : Nat) (ha : a < A.size) (hb : b < A.size) (hc : c < A.size) (K : Int → Nat → Tree β) : ∃ p s : Nat, (p = a ∨ p = b ∨ p = c) ∧ mdT z A.toList a b c K = K p s := by
  unfold mdT
  obtain ⟨x, y, s, h1, e1⟩ := o2T_run z hz A a b ha hb 0 (fun a b s => o2T z A.toList b c s fun b _ s => o2T z A.toList a b s fun _ b s => K b s)
  rw [e1]
  have hy : y < A.size := by omega
  have hx : x < A.size := by omega
  obtain ⟨u, v, s2, h2, e2⟩ := o2T_run z hz A y c hy hc s (fun b _ s => o2T z A.toList x b s fun _ b s => K b s)
  rw [e2]
  have hu : u < A.size := by omega
  obtain ⟨p, q, s3, h3, e3⟩ := o2T_run z hz A x u hx hu s2 (fun _ b s => K b s)
  rw [e3]
  exact ⟨q, s3, by omega, rfl⟩
theorem cvT_run (A : Array Row) (a b : Nat) (hb : b ≤ A.size) (hA : A.size ≤ 49) (h : 8 ≤ b - a) (K : Int → Bool → Tree β) : ∃ (p : Nat) (c : Bool), a ≤ p ∧ p < b ∧ cvT z A.toList a b K = K p c := by
  unfold cvT
  rw [W64_id (n := (b : Int) - (a : Int)) (by omega) (by omega), decide_eq_true (show (b : Int) - (a : Int) ≥ 8 by omega), decide_eq_false (show ¬ (b : Int) - (a : Int) ≥ 50 by omega), Int.tdiv_eq_ediv_of_nonneg (by omega)]
  rw [W64_id (n := ((b : Int) - (a : Int)) / 4) (by omega) (by omega)]
  have key : ∀ q : Nat, q ≤ 3 → W64 ((a : Int) + W64 (((b : Int) - (a : Int)) / 4 * (q : Int))) = ((a + (b - a) / 4 * q : Nat) : Int) := by
    intro q hq
    have : ((b : Int) - (a : Int)) / 4 = (((b - a) / 4 : Nat) : Int) := by omega
    rw [this, ← Int.natCast_mul]
    have h2 : (b - a) / 4 * q ≤ (b - a) / 4 * 3 := Nat.mul_le_mul_left _ hq
    rw [W64_id (n := (((b - a) / 4 * q : Nat) : Int)) (by omega) (by omega), W64_id (by omega) (by omega)]
    omega
  have k1 := key 1 (by omega)
  have k2 := key 2 (by omega)
  have k3 := key 3 (by omega)
  simp only [Int.cast_ofNat_Int] at k1 k2 k3
  rw [k1, k2, k3]
  simp only [cond_true, cond_false]
  obtain ⟨p, s, hp, e⟩ := mdT_run z hz A (a + (b - a) / 4 * 1) (a + (b - a) / 4 * 2) (a + (b - a) / 4 * 3) (by omega) (by omega) (by omega) (fun p s => K p (Nat.beq s 0))
  rw [e]
  exact ⟨p, Nat.beq s 0, by omega, by omega, rfl⟩
theorem cvN_run (A : Array Row) (a b : Nat) (hb : b ≤ A.size) (hA : A.size ≤ 49) (h : 8 ≤ b - a) (K : Int → Int → Tree β) : ∃ (p : Nat) (c : Bool), a ≤ p ∧ p < b ∧ cvN z A.toList a b K = K p (hI c) := by
  obtain ⟨p, c, h1, h2, e⟩ := cvT_run z hz A a b hb hA h (fun p h => .leaf (p, hI h))
  refine ⟨p, c, h1, h2, ?_⟩
  have : cvV z A.toList a b = some ((p : Int), hI c) := by unfold cvV; rw [e]; rfl
  unfold cvN
  rw [this]
  rfl
theorem piT_run (A : Array Row) (a b : Nat) (hab : a < b) (hb : b ≤ A.size) (hA : A.size ≤ 49) (K : BAm → Rows → Bool → Tree β) : piT z A.toList a b K = K z A.toList (decide (scanSorted (ltV z) A b (a + 1) = b)) := by
  unfold piT
  rw [W64_id (n := (a : Int) + 1) (by omega) (by omega), show (a : Int) + 1 = ((a + 1 : Nat) : Int) by omega, q0_run z hz a b A hab hb hA]
  rfl
theorem ptT_run (A : Array Row) (a b p : Nat) (h1 : a ≤ p) (h2 : p < b) (hb : b ≤ A.size) (hA : A.size ≤ 1000) (K : BAm → Rows → Int → Bool → Tree β) : ptT z A.toList a b p K = K z (partition (ltV z) A a b p).2.2.toList ((partition (ltV z) A a b p).1 : Nat) (partition (ltV z) A a b p).2.1 := by
  unfold ptT partition
  rw [swT_run A a p (by omega) (by omega), W64_id (n := (a : Int) + 1) (by omega) (by omega), show (a : Int) + 1 = ((a + 1 : Nat) : Int) by omega, show W64 ((b : Int) - 1) = ((b - 1 : Nat) : Int) by rw [W64_id (by omega) (by omega)]; omega]
  have hsz : (swp A a p).size = A.size := swp_size _ _ _
  generalize swp A a p = B at hsz ⊢
  obtain ⟨t1, t2, t3, t4, t5⟩ := two_scans (ltV z) B a (a + 1) (b - 1) (by omega) (by omega)
  have r1 := up_run ex_p0 z hz a B (by omega) (by omega) (b - 1) (by omega) (b - 1 + 1 - (a + 1)) (a + 1) (b - 1 + 1 - (a + 1) + 1) rfl (by omega) (Nat.le_refl _)
  have sp := Go.Sort.partLoop_spec (ltV z) a b _ (a + 1) (b - 1) B (Nat.le_refl _) (by omega) (by omega) (by omega) (by omega) (fun t h1 h2 => by omega) (fun t h1 h2 => by omega)
  rw [Go.Sort.partLoop_eq] at sp
  simp only []
  generalize scanUp (fun x => ltV z x B[a]!) B (b - 1) (a + 1) = u at t1 t2 t3 t4 t5 r1 sp ⊢
  have r2 := dn_run ex_p1 z hz a B (by omega) (by omega) u (by omega) (b - 1) (b - 1 + 1 - u + 1) (by omega) (Nat.le_refl _)
  generalize scanDown (fun x => !ltV z x B[a]!) B u (b - 1) = v at t3 t4 t5 r2 sp ⊢
  unfold pT0
  rw [fu_hd, r1]
  show pT1 (hd_pt z a B.toList u ((b - 1 : Nat) : Int)) K = _
  unfold pT1
  rw [fu_hd, r2]
  show pT2 z B.toList a u v K = _
  unfold pT2
  by_cases huv : u > v
  · rw [if_pos huv, decide_eq_true (show (u : Int) > (v : Int) by omega), cond_true, swT_run B v a (by omega) (by omega)]
  · have h6 := t5 huv
    rw [if_neg huv, decide_eq_false (show ¬ (u : Int) > (v : Int) by omega), cond_false, swT_run B u v (by omega) (by omega), W64_id (n := (u : Int) + 1) (by omega) (by omega), show (u : Int) + 1 = ((u + 1 : Nat) : Int) by omega, show W64 ((v : Int) - 1) = ((v - 1 : Nat) : Int) by rw [W64_id (by omega) (by omega)]; omega]
    rw [if_neg huv] at sp
    have hsz2 : (swp B u v).size = B.size := swp_size _ _ _
    generalize swp B u v = C at hsz2 sp ⊢
    rw [fu_hd, p2_run z hz a (v - 1 + 1 - (u + 1)) (u + 1) (v - 1) (v - 1 + 1 - (u + 1) + 1) C (Nat.le_refl _) (by omega) (by omega) (by omega) (by omega) (Nat.le_refl _)]
    obtain ⟨m1, m2, m3, _⟩ := sp
    have m4 := m3.1
    generalize partLoop (ltV z) a (u + 1) (v - 1) C = r at m1 m2 m4 ⊢
    show swT r.2.toList (r.1 : Nat) a (fun d => K z d (r.1 : Nat) false) = _
    rw [swT_run r.2 r.1 a (by omega) (by omega)]
end
end Ev
end V
end Go.Proofs.Ytgchccljmjmibaa
