/- Chapter 11: places: the sort sorts: the whole. -/
import Derived.Test.YtgchccljmjmibaaGp
namespace Go.Proofs.Ytgchccljmjmibaa
open Go.RowKit
namespace V
namespace Ev
open Go.Sort (scanSorted partition insertionSort swp PermIn SortedIn SWO Below)
/-- a round goes on with a part -/
def GoOn (z : BAm) (A : Array Row) (a b : Nat) (lim : Int) (t : Tree cD1) : Prop :=
  ∃ (C : Array Row) (a' b' : Nat) (wb wp : Bool), a' ≤ b' ∧ b' ≤ b ∧ b' - a' < b - a ∧ C.size = A.size ∧ Below (ltV z) a' b' C ∧ difP C ∧ (∀ R, PermIn a' b' C R → SortedIn (ltV z) a' b' R → PermIn a b A R ∧ SortedIn (ltV z) a b R) ∧ t.run = some (.inl (hd_pd z C.toList a' b' lim wb wp))
theorem bo_run (z : BAm) (hz : (z.1.length : Int) ≤ 100) (A : Array Row) (a b p : Nat) (lim : Int) (h13 : 12 < b - a) (hb : b ≤ A.size) (hA : A.size ≤ 16) (hB : Below (ltV z) a b A) (hd : difP A) (h1 : a ≤ p) (h2 : p < b) :
    GoOn z A a b lim (bo_d1 a b lim z (partition (ltV z) A a b p).2.2.toList ((partition (ltV z) A a b p).1 : Nat) (partition (ltV z) A a b p).2.1) := by
  have hx : partition (ltV z) A a b p = ((partition (ltV z) A a b p).1, (partition (ltV z) A a b p).2.1, (partition (ltV z) A a b p).2.2) := rfl
  obtain ⟨r1, r2, r3, r4, r5, r6, r7⟩ := Go.Sort.round_part (swo z) (Go.Sort.partition_holds (ltV z)) h1 h2 hb hB hx
  obtain ⟨_, _, pp, _, _⟩ := Go.Sort.partition_holds (ltV z) (swo z) A a b p h1 h2 hb
  have hdD : difP (partition (ltV z) A a b p).2.2 := difP_perm a b A _ hb (by omega) pp hd
  generalize (partition (ltV z) A a b p).1 = mid at r1 r2 r3 r4 r5 r6 r7 ⊢
  generalize (partition (ltV z) A a b p).2.1 = al at r1 r2 r3 r4 r5 r6 r7 ⊢
  generalize (partition (ltV z) A a b p).2.2 = D at r1 r2 r3 r4 r5 r6 r7 hdD ⊢
  unfold bo_d1
  rw [W64_id (n := (mid : Int) - (a : Int)) (by omega) (by omega), W64_id (n := (b : Int) - (mid : Int)) (by omega) (by omega), W64_id (n := (mid : Int) + 1) (by omega) (by omega), show (mid : Int) + 1 = ((mid + 1 : Nat) : Int) by omega]
  by_cases h : mid - a < b - mid
  · rw [decide_eq_true (show (mid : Int) - (a : Int) < (b : Int) - (mid : Int) by omega), cond_true, rcT_run z hz D a mid lim (by omega) (by omega) (by omega) (by omega)]
    obtain ⟨i1, i2⟩ := Go.Sort.insertionSort_holds (swo z) D a mid r1 (by omega)
    obtain ⟨k1, k2⟩ := r6 _ i1 i2
    exact ⟨_, mid + 1, b, _, _, by omega, Nat.le_refl _, by omega, i1.1.trans r3, k1, difP_perm a mid D _ (by omega) r1 i1 hdD, k2, rfl⟩
  · rw [decide_eq_false (show ¬ (mid : Int) - (a : Int) < (b : Int) - (mid : Int) by omega), cond_false, rcT_run z hz D (mid + 1) b lim (by omega) (by omega) (by omega) (by omega)]
    obtain ⟨i1, i2⟩ := Go.Sort.insertionSort_holds (swo z) D (mid + 1) b (by omega) (by omega)
    obtain ⟨k1, k2⟩ := r7 _ i1 i2
    exact ⟨_, a, mid, _, _, r1, by omega, by omega, i1.1.trans r3, k1, difP_perm (mid + 1) b D _ (by omega) (by omega) i1 hdD, k2, rfl⟩
theorem pa_run (z : BAm) (hz : (z.1.length : Int) ≤ 100) (A : Array Row) (a b p : Nat) (lim : Int) (h13 : 12 < b - a) (hb : b ≤ A.size) (hA : A.size ≤ 16) (hB : Below (ltV z) a b A) (hd : difP A) (h1 : a ≤ p) (h2 : p < b) :
    GoOn z A a b lim (pa_d1 a b lim p z A.toList) := by
  have hbo := bo_run z hz A a b p lim h13 hb hA hB hd h1 h2
  have hpt : ptT z A.toList a b p (bo_d1 a b lim) = bo_d1 a b lim z (partition (ltV z) A a b p).2.2.toList ((partition (ltV z) A a b p).1 : Nat) (partition (ltV z) A a b p).2.1 := ptT_run z hz A a b p h1 h2 hb (by omega) _
  unfold pa_d1
  rw [hpt]
  by_cases h0 : 0 < a
  · rw [decide_eq_true (show (a : Int) > 0 by omega), cond_true, show W64 ((a : Int) - 1) = ((a - 1 : Nat) : Int) by rw [W64_id (by omega) (by omega)]; omega, cpT_run z hz A (a - 1) p (by omega) (by omega), below_lt z A a b p hd hb hB h0 h1 h2]
    exact hbo
  · rw [decide_eq_false (show ¬ (a : Int) > 0 by omega)]
    exact hbo
theorem ru_run (z : BAm) (hz : (z.1.length : Int) ≤ 100) (A : Array Row) (a b : Nat) (lim : Int) (wb wp : Bool) (h13 : 12 < b - a) (hb : b ≤ A.size) (hA : A.size ≤ 16) (hB : Below (ltV z) a b A) (hd : difP A) :
    (SortedIn (ltV z) a b A ∧ (ru_d1 a b lim wb wp z A.toList).run = some (.inr (ex_d1 z A.toList))) ∨ GoOn z A a b lim (ru_d1 a b lim wb wp z A.toList) := by
  unfold ru_d1
  obtain ⟨p, c, h1, h2, e⟩ := cvN_run z hz A a b hb (by omega) (by omega) (fun p h => bif h == 2 then .fail else bif wb then (bif wp then (bif h == 1 then piT z A.toList a b fun z d c => bif c then .leaf (.inr (ex_d1 z d)) else pa_d1 a b lim p z d else pa_d1 a b lim p z A.toList) else pa_d1 a b lim p z A.toList) else pa_d1 a b lim p z A.toList)
  rw [e, show (hI c == 2) = false by cases c <;> rfl, show (hI c == 1) = c by cases c <;> rfl, cond_false]
  have hpa := pa_run z hz A a b p lim h13 hb hA hB hd h1 h2
  rw [piT_run z hz A a b (by omega) hb (by omega)]
  cases wb with
  | false => exact .inr hpa
  | true =>
    cases wp with
    | false => exact .inr hpa
    | true =>
      cases c with
      | false => exact .inr hpa
      | true =>
        simp only [cond_true]
        by_cases hs : scanSorted (ltV z) A b (a + 1) = b
        · rw [decide_eq_true hs]
          have hp := Go.Sort.partialInsertionSort_holds (swo z) A a b (by omega) hb hB
          rw [pis_eq (ltV z) A a b (by omega)] at hp
          exact .inl ⟨hp.2 (decide_eq_true hs), rfl⟩
        · rw [decide_eq_false hs]
          exact .inr hpa
theorem d1_run (z : BAm) (hz : (z.1.length : Int) ≤ 100) : ∀ (k a b n : Nat) (A : Array Row) (lim : Int) (wb wp : Bool), b - a ≤ k → a ≤ b → b ≤ A.size → A.size ≤ 16 → Below (ltV z) a b A → difP A → 0 ≤ lim → lim ≤ 1000 → ((b - a : Nat) : Int) ≤ lim + 12 → k + 1 ≤ n →
    ∃ B : Array Row, PermIn a b A B ∧ SortedIn (ltV z) a b B ∧ iter st_d1 n (hd_pd z A.toList a b lim wb wp) = some (ex_d1 z B.toList)
  | k, a, b, n + 1, A, lim, wb, wp, hk, hab, hb, hA, hB, hd, hl0, hl1, hl, hn => by
    have hs : st_d1 (hd_pd z A.toList a b lim wb wp) = sm_d1 z A.toList a b lim wb wp := rfl
    by_cases h12 : b - a ≤ 12
    · obtain ⟨i1, i2⟩ := Go.Sort.insertionSort_holds (swo z) A a b hab hb
      refine ⟨_, i1, i2, iter_out ?_⟩
      rw [hs]
      unfold sm_d1
      rw [W64_id (n := (b : Int) - (a : Int)) (by omega) (by omega), decide_eq_true (show (b : Int) - (a : Int) ≤ 12 by omega), cond_true, isT_run z hz A a b hb (by omega) (by omega)]
      rfl
    · have hl2 : lim ≠ 0 := by omega
      -- a round
      have key : ∃ (A1 : Array Row) (lim1 : Int), PermIn a b A A1 ∧ 0 ≤ lim1 ∧ lim - 1 ≤ lim1 ∧ lim1 ≤ 1000 ∧ sm_d1 z A.toList a b lim wb wp = ru_d1 a b lim1 wb wp z A1.toList := by
        unfold sm_d1
        rw [W64_id (n := (b : Int) - (a : Int)) (by omega) (by omega), decide_eq_false (show ¬ (b : Int) - (a : Int) ≤ 12 by omega), show (lim == 0) = false by rw [beq_eq_false_iff_ne]; exact hl2]
        simp only [cond_false]
        cases wb with
        | true => exact ⟨A, lim, Go.Sort.permIn_refl _ _ _, hl0, by omega, hl1, by rw [Bool.not_true, cond_false]⟩
        | false =>
          obtain ⟨B, p1, p2⟩ := bpT_run z A a b hab hb (by omega) (by omega) (by omega) (ru_d1 a b (W64 (lim - 1)) false wp)
          refine ⟨B, lim - 1, p1, by omega, by omega, by omega, ?_⟩
          rw [Bool.not_false, cond_true, p2, W64_id (n := lim - 1) (by omega) (by omega)]
      obtain ⟨A1, lim1, p1, q1, q2, q3, he⟩ := key
      have hz1 : A1.size = A.size := p1.1
      rcases ru_run z hz A1 a b lim1 wb wp (by omega) (by omega) (by omega) (hB.perm hb p1) (difP_perm a b A A1 hb hab p1 hd) with ⟨s1, s2⟩ | ⟨C, a', b', wb', wp', g1, g2, g3, g4, g5, g6, g7, g8⟩
      · exact ⟨A1, p1, s1, iter_out (by rw [hs, he]; exact s2)⟩
      · obtain ⟨B, t1, t2, t3⟩ := d1_run z hz (k - 1) a' b' n C lim1 wb' wp' (by omega) g1 (by omega) (by omega) g5 g6 q1 q3 (by omega) (by omega)
        obtain ⟨u1, u2⟩ := g7 B t1 t2
        exact ⟨B, Go.Sort.permIn_trans _ _ _ a b p1 u1, u2, by rw [iter_in (by rw [hs, he]; exact g8)]; exact t3⟩
end Ev
end V
end Go.Proofs.Ytgchccljmjmibaa
