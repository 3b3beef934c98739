/- Chapter 11: places: the sort sorts. -/
import Derived.Test.YtgchccljmjmibaaGn
namespace Go.Proofs.Ytgchccljmjmibaa
open Go.RowKit
namespace V
namespace Ev
open Go.Sort (scanSorted partition insertionSort swp PermIn SortedIn SWO Below)
theorem blF_mo : ∀ n : Nat, n ≤ 16 → 8 ≤ n → 0 ≤ blF n ∧ ((2 : Int) ^ min (Int.toNat (blF n)) 64 = 16 ∨ (2 : Int) ^ min (Int.toNat (blF n)) 64 = 32) ∧ ((2 : Int) ^ min (Int.toNat (blF n)) 64 = 32 → n = 16) := by decide +kernel
section
variable {β : Type} (z : BAm)
theorem bpT_run (A : Array Row) (a b : Nat) (hab : a ≤ b) (hb : b ≤ A.size) (hA : A.size ≤ 49) (h8 : 8 ≤ b - a) (h16 : b - a ≤ 16) (K : BAm → Rows → Tree β) : ∃ B : Array Row, PermIn a b A B ∧ bpT z A.toList a b K = K z B.toList := by
  have hl : (b : Int) - (a : Int) = ((b - a : Nat) : Int) := by omega
  obtain ⟨m1, m2, m3⟩ := blF_mo (b - a) h16 h8
  have hmo : ∃ k : Nat, moU ((b - a : Nat) : Int) = (k : Int) + 1 ∧ k + 1 ≤ 2 * (b - a) := by
    unfold moU
    rw [wrapU (n := ((b - a : Nat) : Int)) (by omega) (by omega), show Int.toNat ((b - a : Nat) : Int) = b - a by omega, show IntKind.bits .u64 = 64 from rfl]
    rcases m2 with e | e
    · rw [e]; exact ⟨15, rfl, by omega⟩
    · rw [e]; exact ⟨31, rfl, by have := m3 e; omega⟩
  obtain ⟨k, hk1, hk2⟩ := hmo
  obtain ⟨B, p1, p2⟩ := bp_run z a (b - a) k A (((b - a : Nat) : Int)) h8 hk2 (by omega) (by omega)
  refine ⟨B, by rw [show a + (b - a) = b by omega] at p1; exact p1, ?_⟩
  unfold bpT hb_d1
  rw [hl, W64_id (n := ((b - a : Nat) : Int)) (by omega) (by omega), hk1, wrapU (n := ((b - a : Nat) : Int)) (by omega) (by omega), decide_eq_true (show ((b - a : Nat) : Int) ≥ 8 by omega), decide_eq_true (show 0 ≤ ((b - a : Nat) : Int) ∧ ((b - a : Nat) : Int) ≤ 64 by omega), show Int.toNat ((b - a : Nat) : Int) = b - a by omega, decide_eq_true m1]
  have hi : W64 (W64 ((a : Int) + W64 (W64 (Int.tdiv ((b - a : Nat) : Int) 4) * 2)) - 1) = ((a + (b - a) / 4 * 2 - 1 : Nat) : Int) := by
    rw [Int.tdiv_eq_ediv_of_nonneg (by omega), W64_id (n := ((b - a : Nat) : Int) / 4) (by omega) (by omega), W64_id (n := ((b - a : Nat) : Int) / 4 * 2) (by omega) (by omega), W64_id (n := (a : Int) + ((b - a : Nat) : Int) / 4 * 2) (by omega) (by omega), W64_id (by omega) (by omega)]
    omega
  rw [hi, p2]
  rfl
end
/-! the order is strict -/
/-- rows by their keys: a is before b -/
theorem befV_iff (n : Int) (m : cMp) (l : Rows) (a b : Row) : befV n m l a b = true ↔ (a.2.2.1 > b.2.2.1 ∨ (a.2.2.1 = b.2.2.1 ∧ (amV n m l a > amV n m l b ∨ (amV n m l a = amV n m l b ∧ (a.2.2.2.1 > b.2.2.2.1 ∨ (a.2.2.2.1 = b.2.2.2.1 ∧ W64 (0 - a.1) > W64 (0 - b.1))))))) := by
  have key : ∀ (x y : Int) (t : Bool) (p : Prop), (t = true ↔ p) → ((bif x != y then decide (x > y) else t) = true ↔ (x > y ∨ (x = y ∧ p))) := by
    intro x y t p h
    by_cases e : x = y
    · subst e
      simp [h]
    · rw [show (x != y) = true by simp [e], cond_true, decide_eq_true_iff]
      constructor
      · intro h; exact .inl h
      · rintro (h | ⟨h, _⟩)
        · exact h
        · exact absurd h e
  unfold befV
  refine key _ _ _ _ (key _ _ _ _ (key _ _ _ _ ?_))
  by_cases e : W64 (0 - a.1) = W64 (0 - b.1)
  · rw [e]; simp
  · rw [show (W64 (0 - a.1) != W64 (0 - b.1)) = true from bne_iff_ne.2 e, cond_true, decide_eq_true_iff]
def lx4 (r p s q r2 p2 s2 q2 : Int) : Prop := r > r2 ∨ (r = r2 ∧ (p > p2 ∨ (p = p2 ∧ (s > s2 ∨ (s = s2 ∧ q > q2)))))
theorem lx4_irr (r p s q : Int) : ¬ lx4 r p s q r p s q := by unfold lx4; omega
theorem lx4_tr (r p s q r2 p2 s2 q2 r3 p3 s3 q3 : Int) : lx4 r p s q r2 p2 s2 q2 → lx4 r2 p2 s2 q2 r3 p3 s3 q3 → lx4 r p s q r3 p3 s3 q3 := by unfold lx4; omega
theorem lx4_ntr (r p s q r2 p2 s2 q2 r3 p3 s3 q3 : Int) : ¬ lx4 r p s q r2 p2 s2 q2 → ¬ lx4 r2 p2 s2 q2 r3 p3 s3 q3 → ¬ lx4 r p s q r3 p3 s3 q3 := by unfold lx4; omega
theorem lx4_tot (r p s q r2 p2 s2 q2 : Int) : q ≠ q2 → lx4 r p s q r2 p2 s2 q2 ∨ lx4 r2 p2 s2 q2 r p s q := by unfold lx4; omega
/-- the order by keys -/
theorem lt_iff (z : BAm) (a b : Row) : ltV z a b = true ↔ lx4 a.2.2.1 (amV z.2.1 z.2.2 z.1 a) a.2.2.2.1 (W64 (0 - a.1)) b.2.2.1 (amV z.2.1 z.2.2 z.1 b) b.2.2.2.1 (W64 (0 - b.1)) := befV_iff z.2.1 z.2.2 z.1 a b
theorem lt_not (z : BAm) (a b : Row) : ltV z a b = false ↔ ¬ lx4 a.2.2.1 (amV z.2.1 z.2.2 z.1 a) a.2.2.2.1 (W64 (0 - a.1)) b.2.2.1 (amV z.2.1 z.2.2 z.1 b) b.2.2.2.1 (W64 (0 - b.1)) := by
  rw [← lt_iff, Bool.not_eq_true]
theorem swo (z : BAm) : SWO (ltV z) := ⟨fun x => (lt_not z x x).2 (lx4_irr _ _ _ _), fun x y w h1 h2 => (lt_iff z x w).2 (lx4_tr _ _ _ _ _ _ _ _ _ _ _ _ ((lt_iff z x y).1 h1) ((lt_iff z y w).1 h2)), fun x y w h1 h2 => (lt_not z x w).2 (lx4_ntr _ _ _ _ _ _ _ _ _ _ _ _ ((lt_not z x y).1 h1) ((lt_not z y w).1 h2))⟩
theorem neg_inj0 (x y : Int) (h : 0 - x = 0 - y) : x = y := by omega
/-- a player's number -/
def plOk (r : Row) : Prop := 0 ≤ (r.1 : Int) ∧ (r.1 : Int) ≤ 100
theorem lt_tot (z : BAm) (a b : Row) (ha : plOk a) (hb : plOk b) (h : (a.1 : Int) ≠ b.1) : ltV z a b = true ∨ ltV z b a = true := by
  have h1 : ∀ x : Int, 0 ≤ x → x ≤ 100 → W64 (0 - x) = 0 - x := fun x h1 h2 => W64_id (by omega) (by omega)
  have h2 : W64 (0 - (a.1 : Int)) ≠ W64 (0 - (b.1 : Int)) := by rw [h1 _ ha.1 ha.2, h1 _ hb.1 hb.2]; intro h3; exact h (neg_inj0 _ _ h3)
  rcases lx4_tot _ _ _ _ _ _ _ _ h2 with h | h
  · exact .inl ((lt_iff z a b).2 h)
  · exact .inr ((lt_iff z b a).2 h)
/-- players are different -/
def difP (A : Array Row) : Prop := (∀ i, i < A.size → plOk A[i]!) ∧ ∀ i j, i < A.size → j < A.size → i ≠ j → (A[i]!.1 : Int) ≠ A[j]!.1
theorem below_lt (z : BAm) (A : Array Row) (a b i : Nat) (hd : difP A) (hb : b ≤ A.size) (hB : Below (ltV z) a b A) (h0 : 0 < a) (h1 : a ≤ i) (h2 : i < b) : ltV z A[a - 1]! A[i]! = true := by
  rcases hB with h | h
  · omega
  · have hn := h i h1 h2
    rcases lt_tot z A[a - 1]! A[i]! (hd.1 _ (by omega)) (hd.1 _ (by omega)) (hd.2 _ _ (by omega) (by omega) (by omega)) with h3 | h3
    · exact h3
    · rw [hn] at h3; cases h3
theorem arr_get (A : Array Row) (i : Nat) (h : i < A.size) : A[i]! = A.toList[i]'(by simpa using h) := by simp [h]
theorem difP_iff (A : Array Row) : difP A ↔ (∀ r ∈ A.toList, plOk r) ∧ (A.toList.map fun r => (r.1 : Int)).Nodup := by
  constructor
  · rintro ⟨h1, h2⟩
    refine ⟨fun r hr => ?_, ?_⟩
    · obtain ⟨i, hi, rfl⟩ := List.mem_iff_getElem.1 hr
      have hi' : i < A.size := by simpa using hi
      have := h1 i hi'
      rw [arr_get A i hi'] at this
      exact this
    · rw [List.Nodup, List.pairwise_iff_getElem]
      intro i j hi hj hij
      have hi' : i < A.size := by simpa using hi
      have hj' : j < A.size := by simpa using hj
      have := h2 i j hi' hj' (by omega)
      rw [arr_get A i hi', arr_get A j hj'] at this
      rw [List.getElem_map, List.getElem_map]
      exact this
  · rintro ⟨h1, h2⟩
    refine ⟨fun i hi => ?_, fun i j hi hj hij => ?_⟩
    · rw [arr_get A i hi]
      exact h1 _ (List.getElem_mem _)
    · rw [arr_get A i hi, arr_get A j hj]
      intro he
      have h3 := List.pairwise_iff_getElem.1 h2
      have hi' : i < (A.toList.map fun r => (r.1 : Int)).length := by simpa using hi
      have hj' : j < (A.toList.map fun r => (r.1 : Int)).length := by simpa using hj
      rcases Nat.lt_or_gt_of_ne hij with h | h
      · have := h3 i j hi' hj' h
        rw [List.getElem_map, List.getElem_map] at this
        exact this he
      · have := h3 j i hj' hi' h
        rw [List.getElem_map, List.getElem_map] at this
        exact this he.symm
theorem perm_whole (a b : Nat) (A B : Array Row) (hb : b ≤ A.size) (hab : a ≤ b) (h : PermIn a b A B) : B.toList.Perm A.toList := by
  have h2 := Go.Sort.permIn_mono A B a b 0 A.size (by omega) hb (Nat.le_refl _) h
  have h3 := h2.2.2
  rw [show A.extract 0 A.size = A by simp, show B.extract 0 A.size = B by rw [← h2.1]; simp] at h3
  exact h3
theorem difP_perm (a b : Nat) (A B : Array Row) (hb : b ≤ A.size) (hab : a ≤ b) (h : PermIn a b A B) (hd : difP A) : difP B := by
  have hp := perm_whole a b A B hb hab h
  rw [difP_iff] at hd ⊢
  exact ⟨fun r hr => hd.1 r (hp.mem_iff.1 hr), ((hp.map _).nodup_iff).2 hd.2⟩
end Ev
end V
end Go.Proofs.Ytgchccljmjmibaa
