/- Chapter 11: places: the sort: what the parts of its step do. -/
import Derived.Test.YtgchccljmjmibaaGl
namespace Go.Proofs.Ytgchccljmjmibaa
open Go.RowKit
namespace V
namespace Ev
open Go.Sort (scanUp scanDown scanSorted partLoop partition insertionSort swp PermIn SortedIn)
section
variable {β : Type} (z : BAm) (hz : (z.1.length : Int) ≤ 100)
include hz
theorem isT_run (A : Array Row) (a b : Nat) (hb : b ≤ A.size) (hA : A.size ≤ 1000) (ha : a ≤ 1000) (K : BAm → Rows → Tree β) : isT z A.toList a b K = K z (insertionSort (ltV z) A a b).toList := by
  unfold isT
  rw [W64_id (n := (a : Int) + 1) (by omega) (by omega), show (a : Int) + 1 = ((a + 1 : Nat) : Int) by omega, i0_run z hz a b (b - (a + 1)) (a + 1) A (Int.toNat (b : Int) + 1) rfl hb hA (by omega)]
  rfl
theorem rcT_run (A : Array Row) (a b : Nat) (lim : Int) (hb : b ≤ A.size) (hA : A.size ≤ 1000) (ha : a ≤ 1000) (h12 : b - a ≤ 12) (K : BAm → Rows → Tree β) : rcT z A.toList a b lim K = K z (insertionSort (ltV z) A a b).toList := by
  have h : iter st_d0 1 (hd_pd z A.toList a b lim true true) = some (ex_d0 z (insertionSort (ltV z) A a b).toList) := by
    refine iter_out ?_
    show (sm_d0 z A.toList a b lim true).run = _
    unfold sm_d0
    rw [W64_id (n := (b : Int) - (a : Int)) (by omega) (by omega), decide_eq_true (show (b : Int) - (a : Int) ≤ 12 by omega), cond_true, isT_run z hz A a b hb hA ha]
    rfl
  unfold rcT
  rw [h]
  rfl
theorem o2T_run (A : Array Row) (a b : Nat) (ha : a < A.size) (hb : b < A.size) (s : Nat) (K : Int → Int → Nat → Tree β) : ∃ x y s' : Nat, ((x = a ∧ y = b) ∨ (x = b ∧ y = a)) ∧ o2T z A.toList a b s K = K x y s' := by
  unfold o2T
  rw [cpT_run z hz A b a hb ha]
  cases ltV z A[b]! A[a]! with
  | true => exact ⟨b, a, s + 1, .inr ⟨rfl, rfl⟩, rfl⟩
  | false => exact ⟨a, b, s, .inl ⟨rfl, rfl⟩, rfl⟩
theorem mdT_run (A : Array Row) (a b c : Nat) (ha : a < A.size) (hb : b < A.size) (hc : c < A.size) (K : Int → Nat → Tree β) : ∃ p s : Nat, (p = a ∨ p = b ∨ p = c) ∧ mdT z A.toList a b c K = K p s := by
  unfold mdT
  obtain ⟨x, y, s, h1, e1⟩ := o2T_run z hz A a b ha hb 0 (fun a b s => o2T z A.toList b c s fun b _ s => o2T z A.toList a b s fun _ b s => K b s)
  rw [e1]
  have hy : y < A.size := by omega
  have hx : x < A.size := by omega
  obtain ⟨u, v, s2, h2, e2⟩ := o2T_run z hz A y c hy hc s (fun b _ s => o2T z A.toList x b s fun _ b s => K b s)
  rw [e2]
  have hu : u < A.size := by omega
  obtain ⟨p, q, s3, h3, e3⟩ := o2T_run z hz A x u hx hu s2 (fun _ b s => K b s)
  rw [e3]
  exact ⟨q, s3, by omega, rfl⟩
theorem cvT_run (A : Array Row) (a b : Nat) (hb : b ≤ A.size) (hA : A.size ≤ 49) (h : 8 ≤ b - a) (K : Int → Bool → Tree β) : ∃ (p : Nat) (c : Bool), a ≤ p ∧ p < b ∧ cvT z A.toList a b K = K p c := by
  unfold cvT
  rw [W64_id (n := (b : Int) - (a : Int)) (by omega) (by omega), decide_eq_true (show (b : Int) - (a : Int) ≥ 8 by omega), decide_eq_false (show ¬ (b : Int) - (a : Int) ≥ 50 by omega), Int.tdiv_eq_ediv_of_nonneg (by omega)]
  rw [W64_id (n := ((b : Int) - (a : Int)) / 4) (by omega) (by omega)]
  have key : ∀ q : Nat, q ≤ 3 → W64 ((a : Int) + W64 (((b : Int) - (a : Int)) / 4 * (q : Int))) = ((a + (b - a) / 4 * q : Nat) : Int) := by
    intro q hq
    have : ((b : Int) - (a : Int)) / 4 = (((b - a) / 4 : Nat) : Int) := by omega
    rw [this, ← Int.natCast_mul]
    have h2 : (b - a) / 4 * q ≤ (b - a) / 4 * 3 := Nat.mul_le_mul_left _ hq
    rw [W64_id (n := (((b - a) / 4 * q : Nat) : Int)) (by omega) (by omega), W64_id (by omega) (by omega)]
    omega
  have k1 := key 1 (by omega)
  have k2 := key 2 (by omega)
  have k3 := key 3 (by omega)
  simp only [Int.cast_ofNat_Int] at k1 k2 k3
  rw [k1, k2, k3]
  simp only [cond_true, cond_false]
  obtain ⟨p, s, hp, e⟩ := mdT_run z hz A (a + (b - a) / 4 * 1) (a + (b - a) / 4 * 2) (a + (b - a) / 4 * 3) (by omega) (by omega) (by omega) (fun p s => K p (Nat.beq s 0))
  rw [e]
  exact ⟨p, Nat.beq s 0, by omega, by omega, rfl⟩
theorem cvN_run (A : Array Row) (a b : Nat) (hb : b ≤ A.size) (hA : A.size ≤ 49) (h : 8 ≤ b - a) (K : Int → Int → Tree β) : ∃ (p : Nat) (c : Bool), a ≤ p ∧ p < b ∧ cvN z A.toList a b K = K p (hI c) := by
  obtain ⟨p, c, h1, h2, e⟩ := cvT_run z hz A a b hb hA h (fun p h => .leaf (p, hI h))
  refine ⟨p, c, h1, h2, ?_⟩
  have : cvV z A.toList a b = some ((p : Int), hI c) := by unfold cvV; rw [e]; rfl
  unfold cvN
  rw [this]
  rfl
theorem piT_run (A : Array Row) (a b : Nat) (hab : a < b) (hb : b ≤ A.size) (hA : A.size ≤ 49) (K : BAm → Rows → Bool → Tree β) : piT z A.toList a b K = K z A.toList (decide (scanSorted (ltV z) A b (a + 1) = b)) := by
  unfold piT
  rw [W64_id (n := (a : Int) + 1) (by omega) (by omega), show (a : Int) + 1 = ((a + 1 : Nat) : Int) by omega, q0_run z hz a b A hab hb hA]
  rfl
theorem ptT_run (A : Array Row) (a b p : Nat) (h1 : a ≤ p) (h2 : p < b) (hb : b ≤ A.size) (hA : A.size ≤ 1000) (K : BAm → Rows → Int → Bool → Tree β) : ptT z A.toList a b p K = K z (partition (ltV z) A a b p).2.2.toList ((partition (ltV z) A a b p).1 : Nat) (partition (ltV z) A a b p).2.1 := by
  unfold ptT partition
  rw [swT_run A a p (by omega) (by omega), W64_id (n := (a : Int) + 1) (by omega) (by omega), show (a : Int) + 1 = ((a + 1 : Nat) : Int) by omega, show W64 ((b : Int) - 1) = ((b - 1 : Nat) : Int) by rw [W64_id (by omega) (by omega)]; omega]
  have hsz : (swp A a p).size = A.size := swp_size _ _ _
  generalize swp A a p = B at hsz ⊢
  obtain ⟨t1, t2, t3, t4, t5⟩ := two_scans (ltV z) B a (a + 1) (b - 1) (by omega) (by omega)
  have r1 := up_run ex_p0 z hz a B (by omega) (by omega) (b - 1) (by omega) (b - 1 + 1 - (a + 1)) (a + 1) (b - 1 + 1 - (a + 1) + 1) rfl (by omega) (Nat.le_refl _)
  have sp := Go.Sort.partLoop_spec (ltV z) a b _ (a + 1) (b - 1) B (Nat.le_refl _) (by omega) (by omega) (by omega) (by omega) (fun t h1 h2 => by omega) (fun t h1 h2 => by omega)
  rw [Go.Sort.partLoop_eq] at sp
  simp only []
  generalize scanUp (fun x => ltV z x B[a]!) B (b - 1) (a + 1) = u at t1 t2 t3 t4 t5 r1 sp ⊢
  have r2 := dn_run ex_p1 z hz a B (by omega) (by omega) u (by omega) (b - 1) (b - 1 + 1 - u + 1) (by omega) (Nat.le_refl _)
  generalize scanDown (fun x => !ltV z x B[a]!) B u (b - 1) = v at t3 t4 t5 r2 sp ⊢
  unfold pT0
  rw [fu_hd, r1]
  show pT1 (hd_pt z a B.toList u ((b - 1 : Nat) : Int)) K = _
  unfold pT1
  rw [fu_hd, r2]
  show pT2 z B.toList a u v K = _
  unfold pT2
  by_cases huv : u > v
  · rw [if_pos huv, decide_eq_true (show (u : Int) > (v : Int) by omega), cond_true, swT_run B v a (by omega) (by omega)]
  · have h6 := t5 huv
    rw [if_neg huv, decide_eq_false (show ¬ (u : Int) > (v : Int) by omega), cond_false, swT_run B u v (by omega) (by omega), W64_id (n := (u : Int) + 1) (by omega) (by omega), show (u : Int) + 1 = ((u + 1 : Nat) : Int) by omega, show W64 ((v : Int) - 1) = ((v - 1 : Nat) : Int) by rw [W64_id (by omega) (by omega)]; omega]
    rw [if_neg huv] at sp
    have hsz2 : (swp B u v).size = B.size := swp_size _ _ _
    generalize swp B u v = C at hsz2 sp ⊢
    rw [fu_hd, p2_run z hz a (v - 1 + 1 - (u + 1)) (u + 1) (v - 1) (v - 1 + 1 - (u + 1) + 1) C (Nat.le_refl _) (by omega) (by omega) (by omega) (by omega) (Nat.le_refl _)]
    obtain ⟨m1, m2, m3, _⟩ := sp
    have m4 := m3.1
    generalize partLoop (ltV z) a (u + 1) (v - 1) C = r at m1 m2 m4 ⊢
    show swT r.2.toList (r.1 : Nat) a (fun d => K z d (r.1 : Nat) false) = _
    rw [swT_run r.2 r.1 a (by omega) (by omega)]
end
end Ev
end V
end Go.Proofs.Ytgchccljmjmibaa
/-! Chapter 11: places: the sort sorts. -/
namespace Go.Proofs.Ytgchccljmjmibaa
open Go.RowKit
namespace V
namespace Ev
open Go.Sort (scanSorted partition insertionSort swp PermIn SortedIn SWO Below)
theorem blF_mo : ∀ n : Nat, n ≤ 16 → 8 ≤ n → 0 ≤ blF n ∧ ((2 : Int) ^ min (Int.toNat (blF n)) 64 = 16 ∨ (2 : Int) ^ min (Int.toNat (blF n)) 64 = 32) ∧ ((2 : Int) ^ min (Int.toNat (blF n)) 64 = 32 → n = 16) := by decide +kernel
section
variable {β : Type} (z : BAm)
theorem bpT_run (A : Array Row) (a b : Nat) (hab : a ≤ b) (hb : b ≤ A.size) (hA : A.size ≤ 49) (h8 : 8 ≤ b - a) (h16 : b - a ≤ 16) (K : BAm → Rows → Tree β) : ∃ B : Array Row, PermIn a b A B ∧ bpT z A.toList a b K = K z B.toList := by
  have hl : (b : Int) - (a : Int) = ((b - a : Nat) : Int) := by omega
  obtain ⟨m1, m2, m3⟩ := blF_mo (b - a) h16 h8
  have hmo : ∃ k : Nat, moU ((b - a : Nat) : Int) = (k : Int) + 1 ∧ k + 1 ≤ 2 * (b - a) := by
    unfold moU
    rw [wrapU (n := ((b - a : Nat) : Int)) (by omega) (by omega), show Int.toNat ((b - a : Nat) : Int) = b - a by omega, show IntKind.bits .u64 = 64 from rfl]
    rcases m2 with e | e
    · rw [e]; exact ⟨15, rfl, by omega⟩
    · rw [e]; exact ⟨31, rfl, by have := m3 e; omega⟩
  obtain ⟨k, hk1, hk2⟩ := hmo
  obtain ⟨B, p1, p2⟩ := bp_run z a (b - a) k A (((b - a : Nat) : Int)) h8 hk2 (by omega) (by omega)
  refine ⟨B, by rw [show a + (b - a) = b by omega] at p1; exact p1, ?_⟩
  unfold bpT hb_d1
  rw [hl, W64_id (n := ((b - a : Nat) : Int)) (by omega) (by omega), hk1, wrapU (n := ((b - a : Nat) : Int)) (by omega) (by omega), decide_eq_true (show ((b - a : Nat) : Int) ≥ 8 by omega), decide_eq_true (show 0 ≤ ((b - a : Nat) : Int) ∧ ((b - a : Nat) : Int) ≤ 64 by omega), show Int.toNat ((b - a : Nat) : Int) = b - a by omega, decide_eq_true m1]
  have hi : W64 (W64 ((a : Int) + W64 (W64 (Int.tdiv ((b - a : Nat) : Int) 4) * 2)) - 1) = ((a + (b - a) / 4 * 2 - 1 : Nat) : Int) := by
    rw [Int.tdiv_eq_ediv_of_nonneg (by omega), W64_id (n := ((b - a : Nat) : Int) / 4) (by omega) (by omega), W64_id (n := ((b - a : Nat) : Int) / 4 * 2) (by omega) (by omega), W64_id (n := (a : Int) + ((b - a : Nat) : Int) / 4 * 2) (by omega) (by omega), W64_id (by omega) (by omega)]
    omega
  rw [hi, p2]
  rfl
end
/-! the order is strict -/
/-- rows by their keys: a is before b -/
theorem befV_iff (n : Int) (m : cMp) (l : Rows) (a b : Row) : befV n m l a b = true ↔ (a.2.2.1 > b.2.2.1 ∨ (a.2.2.1 = b.2.2.1 ∧ (amV n m l a > amV n m l b ∨ (amV n m l a = amV n m l b ∧ (a.2.2.2.1 > b.2.2.2.1 ∨ (a.2.2.2.1 = b.2.2.2.1 ∧ W64 (0 - a.1) > W64 (0 - b.1))))))) := by
  have key : ∀ (x y : Int) (t : Bool) (p : Prop), (t = true ↔ p) → ((bif x != y then decide (x > y) else t) = true ↔ (x > y ∨ (x = y ∧ p))) := by
    intro x y t p h
    by_cases e : x = y
    · subst e
      simp [h]
    · rw [show (x != y) = true by simp [e], cond_true, decide_eq_true_iff]
      constructor
      · intro h; exact .inl h
      · rintro (h | ⟨h, _⟩)
        · exact h
        · exact absurd h e
  unfold befV
  refine key _ _ _ _ (key _ _ _ _ (key _ _ _ _ ?_))
  by_cases e : W64 (0 - a.1) = W64 (0 - b.1)
  · rw [e]; simp
  · rw [show (W64 (0 - a.1) != W64 (0 - b.1)) = true from bne_iff_ne.2 e, cond_true, decide_eq_true_iff]
def lx4 (r p s q r2 p2 s2 q2 : Int) : Prop := r > r2 ∨ (r = r2 ∧ (p > p2 ∨ (p = p2 ∧ (s > s2 ∨ (s = s2 ∧ q > q2)))))
theorem lx4_irr (r p s q : Int) : ¬ lx4 r p s q r p s q := by unfold lx4; omega
theorem lx4_tr (r p s q r2 p2 s2 q2 r3 p3 s3 q3 : Int) : lx4 r p s q r2 p2 s2 q2 → lx4 r2 p2 s2 q2 r3 p3 s3 q3 → lx4 r p s q r3 p3 s3 q3 := by unfold lx4; omega
theorem lx4_ntr (r p s q r2 p2 s2 q2 r3 p3 s3 q3 : Int) : ¬ lx4 r p s q r2 p2 s2 q2 → ¬ lx4 r2 p2 s2 q2 r3 p3 s3 q3 → ¬ lx4 r p s q r3 p3 s3 q3 := by unfold lx4; omega
theorem lx4_tot (r p s q r2 p2 s2 q2 : Int) : q ≠ q2 → lx4 r p s q r2 p2 s2 q2 ∨ lx4 r2 p2 s2 q2 r p s q := by unfold lx4; omega
/-- the order by keys -/
theorem lt_iff (z : BAm) (a b : Row) : ltV z a b = true ↔ lx4 a.2.2.1 (amV z.2.1 z.2.2 z.1 a) a.2.2.2.1 (W64 (0 - a.1)) b.2.2.1 (amV z.2.1 z.2.2 z.1 b) b.2.2.2.1 (W64 (0 - b.1)) := befV_iff z.2.1 z.2.2 z.1 a b
theorem lt_not (z : BAm) (a b : Row) : ltV z a b = false ↔ ¬ lx4 a.2.2.1 (amV z.2.1 z.2.2 z.1 a) a.2.2.2.1 (W64 (0 - a.1)) b.2.2.1 (amV z.2.1 z.2.2 z.1 b) b.2.2.2.1 (W64 (0 - b.1)) := by
  rw [← lt_iff, Bool.not_eq_true]
theorem swo (z : BAm) : SWO (ltV z) := ⟨fun x => (lt_not z x x).2 (lx4_irr _ _ _ _), fun x y w h1 h2 => (lt_iff z x w).2 (lx4_tr _ _ _ _ _ _ _ _ _ _ _ _ ((lt_iff z x y).1 h1) ((lt_iff z y w).1 h2)), fun x y w h1 h2 => (lt_not z x w).2 (lx4_ntr _ _ _ _ _ _ _ _ _ _ _ _ ((lt_not z x y).1 h1) ((lt_not z y w).1 h2))⟩
theorem neg_inj0 (x y : Int) (h : 0 - x = 0 - y) : x = y := by omega
/-- a player's number -/
def plOk (r : Row) : Prop := 0 ≤ (r.1 : Int) ∧ (r.1 : Int) ≤ 100
theorem lt_tot (z : BAm) (a b : Row) (ha : plOk a) (hb : plOk b) (h : (a.1 : Int) ≠ b.1) : ltV z a b = true ∨ ltV z b a = true := by
  have h1 : ∀ x : Int, 0 ≤ x → x ≤ 100 → W64 (0 - x) = 0 - x := fun x h1 h2 => W64_id (by omega) (by omega)
  have h2 : W64 (0 - (a.1 : Int)) ≠ W64 (0 - (b.1 : Int)) := by rw [h1 _ ha.1 ha.2, h1 _ hb.1 hb.2]; intro h3; exact h (neg_inj0 _ _ h3)
  rcases lx4_tot _ _ _ _ _ _ _ _ h2 with h | h
  · exact .inl ((lt_iff z a b).2 h)
  · exact .inr ((lt_iff z b a).2 h)
/-- players are different -/
def difP (A : Array Row) : Prop := (∀ i, i < A.size → plOk A[i]!) ∧ ∀ i j, i < A.size → j < A.size → i ≠ j → (A[i]!.1 : Int) ≠ A[j]!.1
theorem below_lt (z : BAm) (A : Array Row) (a b i : Nat) (hd : difP A) (hb : b ≤ A.size) (hB : Below (ltV z) a b A) (h0 : 0 < a) (h1 : a ≤ i) (h2 : i < b) : ltV z A[a - 1]! A[i]! = true := by
  rcases hB with h | h
  · omega
  · have hn := h i h1 h2
    rcases lt_tot z A[a - 1]! A[i]! (hd.1 _ (by omega)) (hd.1 _ (by omega)) (hd.2 _ _ (by omega) (by omega) (by omega)) with h3 | h3
    · exact h3
    · rw [hn] at h3; cases h3
theorem arr_get (A : Array Row) (i : Nat) (h : i < A.size) : A[i]! = A.toList[i]'(by simpa using h) := by simp [h]
theorem difP_iff (A : Array Row) : difP A ↔ (∀ r ∈ A.toList, plOk r) ∧ (A.toList.map fun r => (r.1 : Int)).Nodup := by
  constructor
  · rintro ⟨h1, h2⟩
    refine ⟨fun r hr => ?_, ?_⟩
    · obtain ⟨i, hi, rfl⟩ := List.mem_iff_getElem.1 hr
      have hi' : i < A.size := by simpa using hi
      have := h1 i hi'
      rw [arr_get A i hi'] at this
      exact this
    · rw [List.Nodup, List.pairwise_iff_getElem]
      intro i j hi hj hij
      have hi' : i < A.size := by simpa using hi
      have hj' : j < A.size := by simpa using hj
      have := h2 i j hi' hj' (by omega)
      rw [arr_get A i hi', arr_get A j hj'] at this
      rw [List.getElem_map, List.getElem_map]
      exact this
  · rintro ⟨h1, h2⟩
    refine ⟨fun i hi => ?_, fun i j hi hj hij => ?_⟩
    · rw [arr_get A i hi]
      exact h1 _ (List.getElem_mem _)
    · rw [arr_get A i hi, arr_get A j hj]
      intro he
      have h3 := List.pairwise_iff_getElem.1 h2
      have hi' : i < (A.toList.map fun r => (r.1 : Int)).length := by simpa using hi
      have hj' : j < (A.toList.map fun r => (r.1 : Int)).length := by simpa using hj
      rcases Nat.lt_or_gt_of_ne hij with h | h
      · have := h3 i j hi' hj' h
        rw [List.getElem_map, List.getElem_map] at this
        exact this he
      · have := h3 j i hj' hi' h
        rw [List.getElem_map, List.getElem_map] at this
        exact this he.symm
theorem perm_whole (a b : Nat) (A B : Array Row) (hb : b ≤ A.size) (hab : a ≤ b) (h : PermIn a b A B) : B.toList.Perm A.toList := by
  have h2 := Go.Sort.permIn_mono A B a b 0 A.size (by omega) hb (Nat.le_refl _) h
  have h3 := h2.2.2
  rw [show A.extract 0 A.size = A by simp, show B.extract 0 A.size = B by rw [← h2.1]; simp] at h3
  exact h3
theorem difP_perm (a b : Nat) (A B : Array Row) (hb : b ≤ A.size) (hab : a ≤ b) (h : PermIn a b A B) (hd : difP A) : difP B := by
  have hp := perm_whole a b A B hb hab h
  rw [difP_iff] at hd ⊢
  exact ⟨fun r hr => hd.1 r (hp.mem_iff.1 hr), ((hp.map _).nodup_iff).2 hd.2⟩
end Ev
end V
end Go.Proofs.Ytgchccljmjmibaa
/-! Chapter 11: places: the sort sorts: the whole. -/
namespace Go.Proofs.Ytgchccljmjmibaa
open Go.RowKit
namespace V
namespace Ev
open Go.Sort (scanSorted partition insertionSort swp PermIn SortedIn SWO Below)
/-- a round goes on with a part -/
def GoOn (z : BAm) (A : Array Row) (a b : Nat) (lim : Int) (t : Tree cD1) : Prop :=
  ∃ (C : Array Row) (a' b' : Nat) (wb wp : Bool), a' ≤ b' ∧ b' ≤ b ∧ b' - a' < b - a ∧ C.size = A.size ∧ Below (ltV z) a' b' C ∧ difP C ∧ (∀ R, PermIn a' b' C R → SortedIn (ltV z) a' b' R → PermIn a b A R ∧ SortedIn (ltV z) a b R) ∧ t.run = some (.inl (hd_pd z C.toList a' b' lim wb wp))
theorem bo_run (z : BAm) (hz : (z.1.length : Int) ≤ 100) (A : Array Row) (a b p : Nat) (lim : Int) (h13 : 12 < b - a) (hb : b ≤ A.size) (hA : A.size ≤ 16) (hB : Below (ltV z) a b A) (hd : difP A) (h1 : a ≤ p) (h2 : p < b) :
    GoOn z A a b lim (bo_d1 a b lim z (partition (ltV z) A a b p).2.2.toList ((partition (ltV z) A a b p).1 : Nat) (partition (ltV z) A a b p).2.1) := by
  have hx : partition (ltV z) A a b p = ((partition (ltV z) A a b p).1, (partition (ltV z) A a b p).2.1, (partition (ltV z) A a b p).2.2) := rfl
  obtain ⟨r1, r2, r3, r4, r5, r6, r7⟩ := Go.Sort.round_part (swo z) (Go.Sort.partition_holds (ltV z)) h1 h2 hb hB hx
  obtain ⟨_, _, pp, _, _⟩ := Go.Sort.partition_holds (ltV z) (swo z) A a b p h1 h2 hb
  have hdD : difP (partition (ltV z) A a b p).2.2 := difP_perm a b A _ hb (by omega) pp hd
  generalize (partition (ltV z) A a b p).1 = mid at r1 r2 r3 r4 r5 r6 r7 ⊢
  generalize (partition (ltV z) A a b p).2.1 = al at r1 r2 r3 r4 r5 r6 r7 ⊢
  generalize (partition (ltV z) A a b p).2.2 = D at r1 r2 r3 r4 r5 r6 r7 hdD ⊢
  unfold bo_d1
  rw [W64_id (n := (mid : Int) - (a : Int)) (by omega) (by omega), W64_id (n := (b : Int) - (mid : Int)) (by omega) (by omega), W64_id (n := (mid : Int) + 1) (by omega) (by omega), show (mid : Int) + 1 = ((mid + 1 : Nat) : Int) by omega]
  by_cases h : mid - a < b - mid
  · rw [decide_eq_true (show (mid : Int) - (a : Int) < (b : Int) - (mid : Int) by omega), cond_true, rcT_run z hz D a mid lim (by omega) (by omega) (by omega) (by omega)]
    obtain ⟨i1, i2⟩ := Go.Sort.insertionSort_holds (swo z) D a mid r1 (by omega)
    obtain ⟨k1, k2⟩ := r6 _ i1 i2
    exact ⟨_, mid + 1, b, _, _, by omega, Nat.le_refl _, by omega, i1.1.trans r3, k1, difP_perm a mid D _ (by omega) r1 i1 hdD, k2, rfl⟩
  · rw [decide_eq_false (show ¬ (mid : Int) - (a : Int) < (b : Int) - (mid : Int) by omega), cond_false, rcT_run z hz D (mid + 1) b lim (by omega) (by omega) (by omega) (by omega)]
    obtain ⟨i1, i2⟩ := Go.Sort.insertionSort_holds (swo z) D (mid + 1) b (by omega) (by omega)
    obtain ⟨k1, k2⟩ := r7 _ i1 i2
    exact ⟨_, a, mid, _, _, r1, by omega, by omega, i1.1.trans r3, k1, difP_perm (mid + 1) b D _ (by omega) (by omega) i1 hdD, k2, rfl⟩
theorem pa_run (z : BAm) (hz : (z.1.length : Int) ≤ 100) (A : Array Row) (a b p : Nat) (lim : Int) (h13 : 12 < b - a) (hb : b ≤ A.size) (hA : A.size ≤ 16) (hB : Below (ltV z) a b A) (hd : difP A) (h1 : a ≤ p) (h2 : p < b) :
    GoOn z A a b lim (pa_d1 a b lim p z A.toList) := by
  have hbo := bo_run z hz A a b p lim h13 hb hA hB hd h1 h2
  have hpt : ptT z A.toList a b p (bo_d1 a b lim) = bo_d1 a b lim z (partition (ltV z) A a b p).2.2.toList ((partition (ltV z) A a b p).1 : Nat) (partition (ltV z) A a b p).2.1 := ptT_run z hz A a b p h1 h2 hb (by omega) _
  unfold pa_d1
  rw [hpt]
  by_cases h0 : 0 < a
  · rw [decide_eq_true (show (a : Int) > 0 by omega), cond_true, show W64 ((a : Int) - 1) = ((a - 1 : Nat) : Int) by rw [W64_id (by omega) (by omega)]; omega, cpT_run z hz A (a - 1) p (by omega) (by omega), below_lt z A a b p hd hb hB h0 h1 h2]
    exact hbo
  · rw [decide_eq_false (show ¬ (a : Int) > 0 by omega)]
    exact hbo
theorem ru_run (z : BAm) (hz : (z.1.length : Int) ≤ 100) (A : Array Row) (a b : Nat) (lim : Int) (wb wp : Bool) (h13 : 12 < b - a) (hb : b ≤ A.size) (hA : A.size ≤ 16) (hB : Below (ltV z) a b A) (hd : difP A) :
    (SortedIn (ltV z) a b A ∧ (ru_d1 a b lim wb wp z A.toList).run = some (.inr (ex_d1 z A.toList))) ∨ GoOn z A a b lim (ru_d1 a b lim wb wp z A.toList) := by
  unfold ru_d1
  obtain ⟨p, c, h1, h2, e⟩ := cvN_run z hz A a b hb (by omega) (by omega) (fun p h => bif h == 2 then .fail else bif wb then (bif wp then (bif h == 1 then piT z A.toList a b fun z d c => bif c then .leaf (.inr (ex_d1 z d)) else pa_d1 a b lim p z d else pa_d1 a b lim p z A.toList) else pa_d1 a b lim p z A.toList) else pa_d1 a b lim p z A.toList)
  rw [e, show (hI c == 2) = false by cases c <;> rfl, show (hI c == 1) = c by cases c <;> rfl, cond_false]
  have hpa := pa_run z hz A a b p lim h13 hb hA hB hd h1 h2
  rw [piT_run z hz A a b (by omega) hb (by omega)]
  cases wb with
  | false => exact .inr hpa
  | true =>
    cases wp with
    | false => exact .inr hpa
    | true =>
      cases c with
      | false => exact .inr hpa
      | true =>
        simp only [cond_true]
        by_cases hs : scanSorted (ltV z) A b (a + 1) = b
        · rw [decide_eq_true hs]
          have hp := Go.Sort.partialInsertionSort_holds (swo z) A a b (by omega) hb hB
          rw [pis_eq (ltV z) A a b (by omega)] at hp
          exact .inl ⟨hp.2 (decide_eq_true hs), rfl⟩
        · rw [decide_eq_false hs]
          exact .inr hpa
theorem d1_run (z : BAm) (hz : (z.1.length : Int) ≤ 100) : ∀ (k a b n : Nat) (A : Array Row) (lim : Int) (wb wp : Bool), b - a ≤ k → a ≤ b → b ≤ A.size → A.size ≤ 16 → Below (ltV z) a b A → difP A → 0 ≤ lim → lim ≤ 1000 → ((b - a : Nat) : Int) ≤ lim + 12 → k + 1 ≤ n →
    ∃ B : Array Row, PermIn a b A B ∧ SortedIn (ltV z) a b B ∧ iter st_d1 n (hd_pd z A.toList a b lim wb wp) = some (ex_d1 z B.toList)
  | k, a, b, n + 1, A, lim, wb, wp, hk, hab, hb, hA, hB, hd, hl0, hl1, hl, hn => by
    have hs : st_d1 (hd_pd z A.toList a b lim wb wp) = sm_d1 z A.toList a b lim wb wp := rfl
    by_cases h12 : b - a ≤ 12
    · obtain ⟨i1, i2⟩ := Go.Sort.insertionSort_holds (swo z) A a b hab hb
      refine ⟨_, i1, i2, iter_out ?_⟩
      rw [hs]
      unfold sm_d1
      rw [W64_id (n := (b : Int) - (a : Int)) (by omega) (by omega), decide_eq_true (show (b : Int) - (a : Int) ≤ 12 by omega), cond_true, isT_run z hz A a b hb (by omega) (by omega)]
      rfl
    · have hl2 : lim ≠ 0 := by omega
      -- a round
      have key : ∃ (A1 : Array Row) (lim1 : Int), PermIn a b A A1 ∧ 0 ≤ lim1 ∧ lim - 1 ≤ lim1 ∧ lim1 ≤ 1000 ∧ sm_d1 z A.toList a b lim wb wp = ru_d1 a b lim1 wb wp z A1.toList := by
        unfold sm_d1
        rw [W64_id (n := (b : Int) - (a : Int)) (by omega) (by omega), decide_eq_false (show ¬ (b : Int) - (a : Int) ≤ 12 by omega), show (lim == 0) = false by rw [beq_eq_false_iff_ne]; exact hl2]
        simp only [cond_false]
        cases wb with
        | true => exact ⟨A, lim, Go.Sort.permIn_refl _ _ _, hl0, by omega, hl1, by rw [Bool.not_true, cond_false]⟩
        | false =>
          obtain ⟨B, p1, p2⟩ := bpT_run z A a b hab hb (by omega) (by omega) (by omega) (ru_d1 a b (W64 (lim - 1)) false wp)
          refine ⟨B, lim - 1, p1, by omega, by omega, by omega, ?_⟩
          rw [Bool.not_false, cond_true, p2, W64_id (n := lim - 1) (by omega) (by omega)]
      obtain ⟨A1, lim1, p1, q1, q2, q3, he⟩ := key
      have hz1 : A1.size = A.size := p1.1
      rcases ru_run z hz A1 a b lim1 wb wp (by omega) (by omega) (by omega) (hB.perm hb p1) (difP_perm a b A A1 hb hab p1 hd) with ⟨s1, s2⟩ | ⟨C, a', b', wb', wp', g1, g2, g3, g4, g5, g6, g7, g8⟩
      · exact ⟨A1, p1, s1, iter_out (by rw [hs, he]; exact s2)⟩
      · obtain ⟨B, t1, t2, t3⟩ := d1_run z hz (k - 1) a' b' n C lim1 wb' wp' (by omega) g1 (by omega) (by omega) g5 g6 q1 q3 (by omega) (by omega)
        obtain ⟨u1, u2⟩ := g7 B t1 t2
        exact ⟨B, Go.Sort.permIn_trans _ _ _ a b p1 u1, u2, by rw [iter_in (by rw [hs, he]; exact g8)]; exact t3⟩
end Ev
end V
end Go.Proofs.Ytgchccljmjmibaa
